/- Dst, LSs, LStamps in one text. -/
import Derived.Test.YtliebkhfddmhjaaDoorDSlA
import Derived.Test.YtliebkhfddmhjaaDoorStH
import Derived.Test.YtliebkhfddmhjaaDoorCp3
import Derived.Test.YtliebkhfddmhjaaDoorOvr
import Derived.Test.YtliebkhfddmhjaaDoorSgFt
import Derived.Test.YtliebkhfddmhjaaDoorDrwA
import Derived.Deep.DeepCutAuto
import Derived.Test.YtliebkhfddmhjaaDoorStamp
import Derived.Test.YtliebkhfddmhjaaDoorCurA
import Derived.Test.YtliebkhfddmhjaaDoorLftA
import Derived.Test.YtliebkhfddmhjaaDoorArgsB
import Derived.Test.YtliebkhfddmhjaaDoorTie
import Derived.Test.YtliebkhfddmhjaaDoorCards
namespace Go.Proofs.YtliebkhfddmhjaaDoor
open Go.RowKit

theorem sgn_at_bd (seed : ByteArray) (pool : List ByteArray) (a : Int) (text : ByteArray) : 0 ≤ (sgnV seed pool a text).at_ ∧ (sgnV seed pool a text).at_ ≤ 15 := by
  cases h : sgnOk seed pool a text
  · rw [sgn_no h]; exact ⟨Int.le_refl _, by decide⟩
  · rw [sgn_yes h]; exact (sgnOk_true h).2.1
theorem stV_at (seed : ByteArray) (pool : List ByteArray) (h ep : Int) (r p : ByteArray) : 0 ≤ (stV seed pool h ep r p).at_ ∧ (stV seed pool h ep r p).at_ ≤ 15 := by
  rw [stV]
  split
  · exact sgn_at_bd _ _ _ _
  · exact ⟨Int.le_refl _, by decide⟩
theorem zero_fit : SigFit ⟨0, [], [], []⟩ := ⟨fun z hz => by simp at hz, fun z hz => by simp at hz, fun z hz => by simp at hz⟩
theorem sgn_fit (seed : ByteArray) (a : Int) (text : ByteArray) : SigFit (sgnV seed (poolK seed 16) a text) := by
  cases h : sgnOk seed (poolK seed 16) a text
  · rw [sgn_no h]; exact zero_fit
  · exact sig_fit (sg_well h)
theorem stV_fit {seed : ByteArray} (h ep : Int) (r p : ByteArray) (_ : seed.size ≤ 100) : SigFit (stV seed (poolK seed 16) h ep r p) := by
  rw [stV]
  split
  · exact sgn_fit _ _ _
  · exact zero_fit
theorem row_mut {w w' : World} {b b' : Nat} {v : Value} {xs : List ByteArray} (h : Strs w v xs) (ho : Over b v) (hb : b' < b) (hm : Mut b' w w') : Strs w' v xs := by
  obtain ⟨h0, a1, c1, hv, hc1, hm1, hg⟩ := h
  refine ⟨h0, a1, c1, hv, hc1, hm1, ?_⟩
  rcases hg with h0 | ⟨g, o2, ha, hbg, hg⟩
  · exact Or.inl h0
  · subst ha
    have hbo := ho g o2 _ _ hv
    exact Or.inr ⟨g, o2, rfl, Nat.lt_of_lt_of_le hbg hm.size, fun j u hu => by rw [hm.cell g (o2 + j) hbg (by omega)]; exact hg j u hu⟩
theorem sigRd_mut {w w' : World} {b b' : Nat} {v1 v2 v3 : Value} {s : SigV} (h : SigRd w b v1 v2 v3 s) (hm : Mut b' w w') (hb : b' < b) : SigRd w' b v1 v2 v3 s :=
  ⟨⟨row_mut h.1.1 h.1.2 hb hm, h.1.2⟩, ⟨row_mut h.2.1.1 h.2.1.2 hb hm, h.2.1.2⟩, ⟨row_mut h.2.2.1 h.2.2.2 hb hm, h.2.2.2⟩⟩
set_option maxRecDepth 100000 in
set_option maxHeartbeats 12800000 in
theorem spec_DrawStampOk (v : Value) (bs : List Int) (w : World) (h : Code w w.heap.size v bs) (hl : bs.length ≤ 1048576) :
    Calls Tryd.prog 58 #[v] w fun e w' => ∃ (root : ByteArray) (hh ep : Int) (r p : ByteArray) (S : SigV) (a1 a2 a3 : Option Addr) (c1 c2 c3 : Nat), e = .returned (.tuple #[.string root, .agg #[.int .i64 hh, .int .i64 ep, .string r, .string p], .agg #[.int .i64 S.at_, .slice a1 S.op.length c1, .slice a2 S.sh.length c2, .slice a3 S.si.length c3]]) ∧ SigFit S ∧ SigRd w' w.heap.size (.slice a1 S.op.length c1) (.slice a2 S.sh.length c2) (.slice a3 S.si.length c3) S ∧ Ext w w' := by
  have e0 : Ext w ((w.alloc (Obj.cells #[.int .i64 0, .int .i64 0, .string ⟨#[]⟩, .string ⟨#[]⟩] 32)).alloc (Obj.cells #[.int .i64 0, .slice none 0 0, .slice none 0 0, .slice none 0 0] 28)) := ((Ext.refl w).alloc _).alloc _
  have R : Bx ((w.alloc (Obj.cells #[.int .i64 0, .int .i64 0, .string ⟨#[]⟩, .string ⟨#[]⟩] 32)).alloc (Obj.cells #[.int .i64 0, .slice none 0 0, .slice none 0 0, .slice none 0 0] 28)) w.heap.size [.int .i64 0, .int .i64 0, .string ⟨#[]⟩, .string ⟨#[]⟩] := (Bx.new w _ _).ext ((Ext.refl _).alloc _)
  have T : Bx ((w.alloc (Obj.cells #[.int .i64 0, .int .i64 0, .string ⟨#[]⟩, .string ⟨#[]⟩] 32)).alloc (Obj.cells #[.int .i64 0, .slice none 0 0, .slice none 0 0, .slice none 0 0] 28)) (w.heap.size + 1) [.int .i64 0, .slice none 0 0, .slice none 0 0, .slice none 0 0] := by have e := Bx.new (w.alloc (Obj.cells #[.int .i64 0, .int .i64 0, .string ⟨#[]⟩, .string ⟨#[]⟩] 32)) #[.int .i64 0, .slice none 0 0, .slice none 0 0, .slice none 0 0] 28; rw [World.size_alloc] at e; exact e
  go_enter Tryd.func58, Tryd.ntmps58
  go_wp2_with fail
  generalize (w.alloc (Obj.cells #[.int .i64 0, .int .i64 0, .string ⟨#[]⟩, .string ⟨#[]⟩] 32)).alloc (Obj.cells #[.int .i64 0, .slice none 0 0, .slice none 0 0, .slice none 0 0] 28) = W0 at *
  refine (spec_l01New v bs _ (h.ext (Nat.le_refl _) e0 e0.size) hl).mono ?_
  rintro e w1 ⟨rfl, C, x1⟩
  have lb : w.heap.size + 1 < W0.heap.size := T.1
  replace R := R.ext x1
  replace T := T.ext x1
  have X := e0.trans x1
  clear x1 e0 h
  generalize W0.heap.size = b at *
  have hwb : w.heap.size ≤ b := by omega
  have nb1 : w.heap.size ≠ b := by omega
  have nb2 : w.heap.size + 1 ≠ b := by omega
  go_wp2_with fail
  refine (spec_l01Below b 8 _ C (by decide)).mono ?_
  clear C
  rintro e w2 ⟨k, rfl, hk, C, M⟩
  replace R := R.mut M nb1
  replace T := T.mut M nb2
  replace X := X.mut M hwb
  clear M
  go_wp2_with fail
  refine (spec_l13Head b _ C).mono ?_
  clear C
  rintro e w3 ⟨l, rfl, hlf, C, M⟩
  replace R := R.mut M nb1
  replace T := T.mut M nb2
  replace X := X.mut M hwb
  clear M
  obtain ⟨hh, ep, r, p⟩ := l
  clear hlf
  dsimp only [Hd.val]
  have e3 : Ext w3 (w3.alloc (Obj.cells #[.int .i64 hh, .int .i64 ep, .string r, .string p] 32)) := (Ext.refl _).alloc _
  have H := Bx.new w3 #[.int .i64 hh, .int .i64 ep, .string r, .string p] 32
  have hb3 := C.lt
  replace R := R.ext e3
  replace T := T.ext e3
  replace C := C.ext e3
  replace X := X.trans e3
  have nb3 : w3.heap.size ≠ b := by omega
  have nr1 : w.heap.size + 1 < w3.heap.size := by omega
  go_wp2_with fail
  generalize w3.alloc (Obj.cells #[.int .i64 hh, .int .i64 ep, .string r, .string p] 32) = w4 at *
  generalize w3.heap.size = hb at *
  clear e3
  refine (spec_l01Below b 3 _ C (by decide)).mono ?_
  clear C
  rintro e w5 ⟨n, rfl, hn, C, M⟩
  replace R := R.mut M nb1
  replace T := T.mut M nb2
  replace H := H.mut M nb3
  replace X := X.mut M hwb
  clear M
  go_wp2_with fail
  refine (spec_l14Seed n _ (by omega)).mono ?_
  rintro e w6 ⟨seed, rfl, hsd, x6⟩
  replace R := R.ext x6
  replace T := T.ext x6
  replace C := C.ext x6
  replace X := X.trans x6
  replace H := H.ext x6
  have HPF := Lib.hid (fun (s : ByteArray) (hs : s ∈ poolK seed 16) => show s.size ≤ maxLen by have := poolK_fit seed 16 s hs; unfold maxLen; omega)
  have HAT := Lib.hid (stV_at seed (poolK seed 16) hh ep r p)
  have HFT := Lib.hid (stV_fit (seed := seed) hh ep r p (by omega))
  have HLN := Lib.hid (stV_len seed (poolK seed 16) hh ep r p)
  go_wp2_with fail
  refine (spec_PoolOf seed _).mono ?_
  rintro e w7 ⟨pa, pc, rfl, own, x7⟩
  replace R := R.ext x7
  replace T := T.ext x7
  replace C := C.ext x7
  replace X := X.trans x7
  replace H := H.ext x7
  obtain ⟨g, c', he⟩ := own_form own (by rw [poolK_len]; omega)
  injection he with e1 e2 e3
  subst e1 e3
  clear e2
  generalize poolK seed 16 = pool at *
  skip
  have h0 := H.2.1 0 _ rfl
  have h1 := H.2.1 1 _ rfl
  have h2 := H.2.1 2 _ rfl
  have h3 := H.2.1 3 _ rfl
  go_wp2_with fail
  refine (spec_StampHead seed _ pool hh ep r p _ own.strs HPF.out (solid_some _ _ _ _)).mono ?_
  generalize stV seed pool hh ep r p = S at *
  generalize stK seed pool hh ep r p = kk at *
  rintro e w8 ⟨a1, c1, a2, c2, a3, c3, rfl, so, x8⟩
  clear h0 h1 h2 h3
  replace R := R.ext x8
  replace T := T.ext x8
  replace C := C.ext x8
  replace X := X.trans x8
  replace H := H.ext x8
  replace own := own.ext x8
  have e8 : Ext w8 (w8.alloc (Obj.cells #[.int .i64 S.at_, .slice a1 S.op.length c1, .slice a2 S.sh.length c2, .slice a3 S.si.length c3] 28)) := (Ext.refl _).alloc _
  have Q := Bx.new w8 #[.int .i64 S.at_, .slice a1 S.op.length c1, .slice a2 S.sh.length c2, .slice a3 S.si.length c3] 28
  have lb8 := C.lt
  have lh8 : hb < w8.heap.size := H.1
  have hgq := fun k hk => (show k ≠ w8.heap.size by have := (own_lt own k hk).2; omega)
  replace R := R.ext e8
  replace T := T.ext e8
  replace C := C.ext e8
  replace X := X.trans e8
  replace H := H.ext e8
  replace own := own.ext e8
  replace so := so.ext e8
  have q0 := Q.2.1 0 _ rfl
  have q1 := Q.2.1 1 _ rfl
  have q2 := Q.2.1 2 _ rfl
  have q3 := Q.2.1 3 _ rfl
  have nq : w8.heap.size ≠ b := by omega
  go_wp2_with fail
  generalize w8.alloc (Obj.cells #[.int .i64 S.at_, .slice a1 S.op.length c1, .slice a2 S.sh.length c2, .slice a3 S.si.length c3] 28) = w9 at *
  generalize w8.heap.size = qb at *
  clear e8
  have n1 : S.op.length ≤ 1000 := by have := HLN.out; omega
  have n2 : S.sh.length ≤ 1000 := by have := HLN.out; omega
  have n3 : S.si.length ≤ 1000 := by have := HLN.out; omega
  refine (spec_l05Copy _ _ _ S _ so.1.strs so.2.1.strs so.2.2.1.strs (own_solid so.1) (own_solid so.2.1) (own_solid so.2.2.1) n1 n2 n3).mono ?_
  rintro e w10 ⟨p1, d1, p2, d2, p3, d3, rfl, sc, x10⟩
  have lq9 : qb < w9.heap.size := Q.1
  clear so n1 n2 n3 q0 q1 q2 q3
  replace R := R.ext x10
  replace T := T.ext x10
  replace C := C.ext x10
  replace X := X.trans x10
  replace H := H.ext x10
  replace own := own.ext x10
  replace Q := Q.ext x10
  have z0 := Q.2.1 0 _ rfl
  have z1 := Q.2.1 1 _ rfl
  have z2 := Q.2.1 2 _ rfl
  have z3 := Q.2.1 3 _ rfl
  have f0 := Q.2.2 0
  have f1 := Q.2.2 1
  have f2 := Q.2.2 2
  have f3 := Q.2.2 3
  have R9 := ((((R.far (c := qb) (by omega) 0 (.int .i64 S.at_)).far (c := qb) (by omega) 1 (.slice p1 S.op.length d1)).far (c := qb) (by omega) 2 (.slice p2 S.sh.length d2)).far (c := qb) (by omega) 3 (.slice p3 S.si.length d3))
  have T9 := ((((T.far (c := qb) (by omega) 0 (.int .i64 S.at_)).far (c := qb) (by omega) 1 (.slice p1 S.op.length d1)).far (c := qb) (by omega) 2 (.slice p2 S.sh.length d2)).far (c := qb) (by omega) 3 (.slice p3 S.si.length d3))
  have H9 := ((((H.far (c := qb) (by omega) 0 (.int .i64 S.at_)).far (c := qb) (by omega) 1 (.slice p1 S.op.length d1)).far (c := qb) (by omega) 2 (.slice p2 S.sh.length d2)).far (c := qb) (by omega) 3 (.slice p3 S.si.length d3))
  have Q9 := ((((Q.set 0 (.int .i64 S.at_) (by simp)).set 1 (.slice p1 S.op.length d1) (by simp)).set 2 (.slice p2 S.sh.length d2) (by simp)).set 3 (.slice p3 S.si.length d3) (by simp))
  have C9 := ((((C.far (c := qb) (by omega) 0 (.int .i64 S.at_)).far (c := qb) (by omega) 1 (.slice p1 S.op.length d1)).far (c := qb) (by omega) 2 (.slice p2 S.sh.length d2)).far (c := qb) (by omega) 3 (.slice p3 S.si.length d3))
  have X9 : Ext w ((((w10.setCell ⟨qb, 0, none⟩ (.int .i64 S.at_)).setCell ⟨qb, 1, none⟩ (.slice p1 S.op.length d1)).setCell ⟨qb, 2, none⟩ (.slice p2 S.sh.length d2)).setCell ⟨qb, 3, none⟩ (.slice p3 S.si.length d3)) := ((((X.setCell (by dsimp only; omega) (.int .i64 S.at_)).setCell (by dsimp only; omega) (.slice p1 S.op.length d1)).setCell (by dsimp only; omega) (.slice p2 S.sh.length d2)).setCell (by dsimp only; omega) (.slice p3 S.si.length d3))
  have s9 := sc.below4 (b := qb) lq9 (.int .i64 S.at_) (.slice p1 S.op.length d1) (.slice p2 S.sh.length d2) (.slice p3 S.si.length d3)
  have SR := (sigRd_of s9).mono (show qb + 1 ≤ _ from lq9)
  have own9 := (own_far (own_far (own_far (own_far own hgq (o := 0) (.int .i64 S.at_)) hgq (o := 1) (.slice p1 S.op.length d1)) hgq (o := 2) (.slice p2 S.sh.length d2)) hgq (o := 3) (.slice p3 S.si.length d3))
  go_upto_region 8 with (fail)
  clear z0 z1 z2 z3 f0 f1 f2 f3 R T H Q C X sc s9 own hgq
  have R := R9
  have T := T9
  have H := H9
  have Q := Q9
  have C := C9
  have X := X9
  have own := own9
  clear R9 T9 H9 Q9 C9 X9 own9
  generalize (((w10.setCell ⟨qb, 0, none⟩ (.int .i64 S.at_)).setCell ⟨qb, 1, none⟩ (.slice p1 S.op.length d1)).setCell ⟨qb, 2, none⟩ (.slice p2 S.sh.length d2)).setCell ⟨qb, 3, none⟩ (.slice p3 S.si.length d3) = w11 at *
  go_wp2_with fail
  refine (spec_PoolRoot _ pool _ (Row.of_owns own) HPF.out (solid_some _ _ _ _)).mono ?_
  generalize poolRt pool = rt at *
  rintro e w12 ⟨rfl, x12⟩
  replace R := R.ext x12
  replace T := T.ext x12
  replace C := C.ext x12
  replace X := X.trans x12
  replace H := H.ext x12
  replace Q := Q.ext x12
  replace SR := SR.ext x12
  replace own := own_ext own x12
  clear own HPF HLN
  have lbq : b < qb := lb8
  have lhq : hb < qb := lh8
  have lq12 : qb < w12.heap.size := Q.1
  by_cases h3 : 3 ≤ k
  · have hk0 : ¬ k = 0 := by omega
    have hk1 : ¬ k = 1 := by omega
    have hk2 : ¬ k = 2 := by omega
    have hkb0 : (k == 0) = false := beq_eq_false_iff_ne.2 hk0
    have hkb1 : (k == 1) = false := beq_eq_false_iff_ne.2 hk1
    have hkb2 : (k == 2) = false := beq_eq_false_iff_ne.2 hk2
    go_upto_region 16 with (fail)
    refine wp_region_held_drew (S := (fun W => W.cell? ⟨hb, 0, none⟩ = some (.int .i64 hh) ∧ W.cell? ⟨hb, 1, none⟩ = some (.int .i64 ep) ∧ W.cell? ⟨hb, 2, none⟩ = some (.string r) ∧ W.cell? ⟨hb, 3, none⟩ = some (.string p) ∧ W.cell? ⟨qb, 0, none⟩ = some (.int .i64 S.at_) ∧ W.cell? ⟨qb, 1, none⟩ = some (.slice p1 S.op.length d1) ∧ W.cell? ⟨qb, 2, none⟩ = some (.slice p2 S.sh.length d2) ∧ W.cell? ⟨qb, 3, none⟩ = some (.slice p3 S.si.length d3))) (by kernel_rfl) (by exact ⟨H.2.1 0 _ rfl, H.2.1 1 _ rfl, H.2.1 2 _ rfl, H.2.1 3 _ rfl, Q.2.1 0 _ rfl, Q.2.1 1 _ rfl, Q.2.1 2 _ rfl, Q.2.1 3 _ rfl⟩) (fun hHeld => ?_)
    have xd : Ext w12 w12.drew := (Ext.refl w12).drew
    replace R := R.ext xd
    replace T := T.ext xd
    replace C := C.ext xd
    replace X := X.trans xd
    replace H := H.ext xd
    replace Q := Q.ext xd
    replace SR := SR.ext xd
    generalize w12.drew = wa at *
    have q0 := H.2.1 0 _ rfl
    have q1 := H.2.1 1 _ rfl
    have q2 := H.2.1 2 _ rfl
    have q3 := H.2.1 3 _ rfl
    have q4 := Q.2.1 0 _ rfl
    have q5 := Q.2.1 1 _ rfl
    have q6 := Q.2.1 2 _ rfl
    have q7 := Q.2.1 3 _ rfl
    (refine wpAnyH_take (i := 0) (v := ?_) rfl (by kernel_rfl) (by kernel_rfl) (by kernel_rfl) (fun _ _ _ h => h) (Or.inl ⟨by rfl, ?_⟩) (by assumption) ?_; rotate_left; focus (intro w hSw; (try dsimp only at hSw); (try simp only [zk1, zk2]); go_simp; try with_reducible rfl)); (try simp only [zk1, zk2]); (try simp only [Act.put, zk4, zk5, zk6])
    (refine wpAnyH_take (i := 1) (v := ?_) rfl (by kernel_rfl) (by kernel_rfl) (by kernel_rfl) (fun _ _ _ h => h) (Or.inl ⟨by rfl, ?_⟩) (by assumption) ?_; rotate_left; focus (intro w hSw; (try dsimp only at hSw); (try simp only [zk1, zk2, zk3]); go_simp; try with_reducible rfl)); (try simp only [zk1, zk2, zk3]); (try simp only [Act.put, zk4, zk5, zk6])
    (refine wpAnyH_take (i := 2) (v := ?_) rfl (by kernel_rfl) (by kernel_rfl) (by kernel_rfl) (fun _ _ _ h => h) (Or.inl ⟨by rfl, ?_⟩) (by assumption) ?_; rotate_left; focus (intro w hSw; (try dsimp only at hSw); (try simp only [zk1, zk2, zk3]); go_simp; try with_reducible rfl)); (try simp only [zk1, zk2, zk3]); (try simp only [Act.put, zk4, zk5, zk6])
    (refine wpAnyH_take (i := 3) (v := ?_) rfl (by kernel_rfl) (by kernel_rfl) (by kernel_rfl) (fun _ _ _ h => h) (Or.inl ⟨by rfl, ?_⟩) (by assumption) ?_; rotate_left; focus (intro w hSw; (try dsimp only at hSw); (try simp only [zk1, zk2, zk3]); go_simp; try with_reducible rfl)); (try simp only [zk1, zk2, zk3]); (try simp only [Act.put, zk4, zk5, zk6])
    clear q0 q1 q2 q3 q4 q5 q6 q7 C
    have z0 := R.2.1 0 _ rfl
    have z1 := R.2.1 1 _ rfl
    have z2 := R.2.1 2 _ rfl
    have z3 := R.2.1 3 _ rfl
    have f0 := R.2.2 0
    have f1 := R.2.2 1
    have f2 := R.2.2 2
    have f3 := R.2.2 3
    have B9 := ((((R.set 0 (.int .i64 hh) (by simp)).set 1 (.int .i64 ep) (by simp)).set 2 (.string r) (by simp)).set 3 (.string p) (by simp))
    have T9 := ((((T.far (c := w.heap.size) (by omega) 0 (.int .i64 hh)).far (c := w.heap.size) (by omega) 1 (.int .i64 ep)).far (c := w.heap.size) (by omega) 2 (.string r)).far (c := w.heap.size) (by omega) 3 (.string p))
    have H9 := ((((H.far (c := w.heap.size) (by omega) 0 (.int .i64 hh)).far (c := w.heap.size) (by omega) 1 (.int .i64 ep)).far (c := w.heap.size) (by omega) 2 (.string r)).far (c := w.heap.size) (by omega) 3 (.string p))
    have Q9 := ((((Q.far (c := w.heap.size) (by omega) 0 (.int .i64 hh)).far (c := w.heap.size) (by omega) 1 (.int .i64 ep)).far (c := w.heap.size) (by omega) 2 (.string r)).far (c := w.heap.size) (by omega) 3 (.string p))
    have SR9 := ((((SR.set (c := w.heap.size) (by omega) 0 (.int .i64 hh)).set (c := w.heap.size) (by omega) 1 (.int .i64 ep)).set (c := w.heap.size) (by omega) 2 (.string r)).set (c := w.heap.size) (by omega) 3 (.string p))
    have X9 : Ext w ((((wa.setCell ⟨w.heap.size, 0, none⟩ (.int .i64 hh)).setCell ⟨w.heap.size, 1, none⟩ (.int .i64 ep)).setCell ⟨w.heap.size, 2, none⟩ (.string r)).setCell ⟨w.heap.size, 3, none⟩ (.string p)) := ((((X.setCell (by dsimp only; omega) (.int .i64 hh)).setCell (by dsimp only; omega) (.int .i64 ep)).setCell (by dsimp only; omega) (.string r)).setCell (by dsimp only; omega) (.string p))
    (refine wpAnyH_ready (rs := [4]) (by kernel_rfl) (by simp) ?_; refine AllReadyH.cons rfl (fun K hK => ?_) AllReadyH.nil; (try simp only [zk1, zk2, zk3]))
    go_simp
    clear z0 f0 z1 f1 z2 f2 z3 f3 R T H Q SR X
    have R := B9
    have T := T9
    have H := H9
    have Q := Q9
    have SR := SR9
    have X := X9
    clear B9 SR9 X9 T9 H9 Q9
    generalize (((wa.setCell ⟨w.heap.size, 0, none⟩ (.int .i64 hh)).setCell ⟨w.heap.size, 1, none⟩ (.int .i64 ep)).setCell ⟨w.heap.size, 2, none⟩ (.string r)).setCell ⟨w.heap.size, 3, none⟩ (.string p) = wb at *
    (try dsimp only)
    refine hK.out _ _ (by exact ⟨H.2.1 0 _ rfl, H.2.1 1 _ rfl, H.2.1 2 _ rfl, H.2.1 3 _ rfl, Q.2.1 0 _ rfl, Q.2.1 1 _ rfl, Q.2.1 2 _ rfl, Q.2.1 3 _ rfl⟩) (fun hHeld => ?_)
    clear hK K
    have z0 := T.2.1 0 _ rfl
    have z1 := T.2.1 1 _ rfl
    have z2 := T.2.1 2 _ rfl
    have z3 := T.2.1 3 _ rfl
    have f0 := T.2.2 0
    have f1 := T.2.2 1
    have f2 := T.2.2 2
    have f3 := T.2.2 3
    have B9 := ((((T.set 0 (.int .i64 S.at_) (by simp)).set 1 (.slice p1 S.op.length d1) (by simp)).set 2 (.slice p2 S.sh.length d2) (by simp)).set 3 (.slice p3 S.si.length d3) (by simp))
    have R9 := ((((R.far (c := (w.heap.size + 1)) (by omega) 0 (.int .i64 S.at_)).far (c := (w.heap.size + 1)) (by omega) 1 (.slice p1 S.op.length d1)).far (c := (w.heap.size + 1)) (by omega) 2 (.slice p2 S.sh.length d2)).far (c := (w.heap.size + 1)) (by omega) 3 (.slice p3 S.si.length d3))
    have H9 := ((((H.far (c := (w.heap.size + 1)) (by omega) 0 (.int .i64 S.at_)).far (c := (w.heap.size + 1)) (by omega) 1 (.slice p1 S.op.length d1)).far (c := (w.heap.size + 1)) (by omega) 2 (.slice p2 S.sh.length d2)).far (c := (w.heap.size + 1)) (by omega) 3 (.slice p3 S.si.length d3))
    have Q9 := ((((Q.far (c := (w.heap.size + 1)) (by omega) 0 (.int .i64 S.at_)).far (c := (w.heap.size + 1)) (by omega) 1 (.slice p1 S.op.length d1)).far (c := (w.heap.size + 1)) (by omega) 2 (.slice p2 S.sh.length d2)).far (c := (w.heap.size + 1)) (by omega) 3 (.slice p3 S.si.length d3))
    have SR9 := ((((SR.set (c := (w.heap.size + 1)) (by omega) 0 (.int .i64 S.at_)).set (c := (w.heap.size + 1)) (by omega) 1 (.slice p1 S.op.length d1)).set (c := (w.heap.size + 1)) (by omega) 2 (.slice p2 S.sh.length d2)).set (c := (w.heap.size + 1)) (by omega) 3 (.slice p3 S.si.length d3))
    have X9 : Ext w ((((wb.setCell ⟨(w.heap.size + 1), 0, none⟩ (.int .i64 S.at_)).setCell ⟨(w.heap.size + 1), 1, none⟩ (.slice p1 S.op.length d1)).setCell ⟨(w.heap.size + 1), 2, none⟩ (.slice p2 S.sh.length d2)).setCell ⟨(w.heap.size + 1), 3, none⟩ (.slice p3 S.si.length d3)) := ((((X.setCell (by dsimp only; omega) (.int .i64 S.at_)).setCell (by dsimp only; omega) (.slice p1 S.op.length d1)).setCell (by dsimp only; omega) (.slice p2 S.sh.length d2)).setCell (by dsimp only; omega) (.slice p3 S.si.length d3))
    (refine wpAnyH_ready (rs := [5]) (by kernel_rfl) (by simp) ?_; refine AllReadyH.cons rfl (fun K hK => ?_) AllReadyH.nil; (try simp only [zk1, zk2, zk3]))
    go_simp
    clear z0 f0 z1 f1 z2 f2 z3 f3 T R H Q SR X
    have T := B9
    have R := R9
    have H := H9
    have Q := Q9
    have SR := SR9
    have X := X9
    clear B9 SR9 X9 R9 H9 Q9
    generalize (((wb.setCell ⟨(w.heap.size + 1), 0, none⟩ (.int .i64 S.at_)).setCell ⟨(w.heap.size + 1), 1, none⟩ (.slice p1 S.op.length d1)).setCell ⟨(w.heap.size + 1), 2, none⟩ (.slice p2 S.sh.length d2)).setCell ⟨(w.heap.size + 1), 3, none⟩ (.slice p3 S.si.length d3) = wc2 at *
    (try dsimp only)
    refine hK.out _ _ (by exact ⟨H.2.1 0 _ rfl, H.2.1 1 _ rfl, H.2.1 2 _ rfl, H.2.1 3 _ rfl, Q.2.1 0 _ rfl, Q.2.1 1 _ rfl, Q.2.1 2 _ rfl, Q.2.1 3 _ rfl⟩) (fun hHeld => ?_)
    clear hK K
    refine wpAnyH_done (by kernel_rfl) ?_ _
    have k0 := R.2.1 0 _ rfl
    have k1 := R.2.1 1 _ rfl
    have k2 := R.2.1 2 _ rfl
    have k3 := R.2.1 3 _ rfl
    have j0 := T.2.1 0 _ rfl
    have j1 := T.2.1 1 _ rfl
    have j2 := T.2.1 2 _ rfl
    have j3 := T.2.1 3 _ rfl
    go_wp2
    refine bodyPost_ret (v := .tuple #[.string rt, .agg #[.int .i64 hh, .int .i64 ep, .string r, .string p], .agg #[.int .i64 S.at_, .slice p1 S.op.length d1, .slice p2 S.sh.length d2, .slice p3 S.si.length d3]]) (by simp [results, Tryd.results58, go_sem, k0, k1, k2, k3, j0, j1, j2, j3]) rfl ?_
    exact ⟨rt, hh, ep, r, p, S, p1, p2, p3, d1, d2, d3, rfl, HFT.out, SR.mono (by omega), X⟩
  by_cases h0 : k = 0
  · subst h0
    go_wp2_with fail
    refine (spec_l01Long 16 97 _ (by omega)).mono ?_
    rintro e w13 ⟨tx, rfl, htx, x13⟩
    replace R := R.ext x13
    replace T := T.ext x13
    replace C := C.ext x13
    replace X := X.trans x13
    replace H := H.ext x13
    replace Q := Q.ext x13
    replace SR := SR.ext x13
    go_upto_region 16 with (fail)
    refine wp_region_held_drew (S := (fun W => W.cell? ⟨hb, 0, none⟩ = some (.int .i64 hh) ∧ W.cell? ⟨hb, 1, none⟩ = some (.int .i64 ep) ∧ W.cell? ⟨hb, 2, none⟩ = some (.string r) ∧ W.cell? ⟨hb, 3, none⟩ = some (.string p) ∧ W.cell? ⟨qb, 0, none⟩ = some (.int .i64 S.at_) ∧ W.cell? ⟨qb, 1, none⟩ = some (.slice p1 S.op.length d1) ∧ W.cell? ⟨qb, 2, none⟩ = some (.slice p2 S.sh.length d2) ∧ W.cell? ⟨qb, 3, none⟩ = some (.slice p3 S.si.length d3))) (by kernel_rfl) (by exact ⟨H.2.1 0 _ rfl, H.2.1 1 _ rfl, H.2.1 2 _ rfl, H.2.1 3 _ rfl, Q.2.1 0 _ rfl, Q.2.1 1 _ rfl, Q.2.1 2 _ rfl, Q.2.1 3 _ rfl⟩) (fun hHeld => ?_)
    have xd : Ext w13 w13.drew := (Ext.refl w13).drew
    replace R := R.ext xd
    replace T := T.ext xd
    replace C := C.ext xd
    replace X := X.trans xd
    replace H := H.ext xd
    replace Q := Q.ext xd
    replace SR := SR.ext xd
    generalize w13.drew = wa at *
    have q0 := H.2.1 0 _ rfl
    have q1 := H.2.1 1 _ rfl
    have q2 := H.2.1 2 _ rfl
    have q3 := H.2.1 3 _ rfl
    have q4 := Q.2.1 0 _ rfl
    have q5 := Q.2.1 1 _ rfl
    have q6 := Q.2.1 2 _ rfl
    have q7 := Q.2.1 3 _ rfl
    (refine wpAnyH_take (i := 0) (v := ?_) rfl (by kernel_rfl) (by kernel_rfl) (by kernel_rfl) (fun _ _ _ h => h) (Or.inl ⟨by rfl, ?_⟩) (by assumption) ?_; rotate_left; focus (intro w hSw; (try dsimp only at hSw); (try simp only [zk1, zk2]); go_simp; try with_reducible rfl)); (try simp only [zk1, zk2]); (try simp only [Act.put, zk4, zk5, zk6])
    (refine wpAnyH_take (i := 1) (v := ?_) rfl (by kernel_rfl) (by kernel_rfl) (by kernel_rfl) (fun _ _ _ h => h) (Or.inl ⟨by rfl, ?_⟩) (by assumption) ?_; rotate_left; focus (intro w hSw; (try dsimp only at hSw); (try simp only [zk1, zk2, zk3]); go_simp; try with_reducible rfl)); (try simp only [zk1, zk2, zk3]); (try simp only [Act.put, zk4, zk5, zk6])
    (refine wpAnyH_take (i := 2) (v := ?_) rfl (by kernel_rfl) (by kernel_rfl) (by kernel_rfl) (fun _ _ _ h => h) (Or.inl ⟨by rfl, ?_⟩) (by assumption) ?_; rotate_left; focus (intro w hSw; (try dsimp only at hSw); (try simp only [zk1, zk2, zk3]); go_simp; try with_reducible rfl)); (try simp only [zk1, zk2, zk3]); (try simp only [Act.put, zk4, zk5, zk6])
    (refine wpAnyH_take (i := 3) (v := ?_) rfl (by kernel_rfl) (by kernel_rfl) (by kernel_rfl) (fun _ _ _ h => h) (Or.inl ⟨by rfl, ?_⟩) (by assumption) ?_; rotate_left; focus (intro w hSw; (try dsimp only at hSw); (try simp only [zk1, zk2, zk3]); go_simp; try with_reducible rfl)); (try simp only [zk1, zk2, zk3]); (try simp only [Act.put, zk4, zk5, zk6])
    clear q0 q1 q2 q3 q4 q5 q6 q7 C
    have z0 := R.2.1 0 _ rfl
    have z1 := R.2.1 1 _ rfl
    have z2 := R.2.1 2 _ rfl
    have z3 := R.2.1 3 _ rfl
    have f0 := R.2.2 0
    have f1 := R.2.2 1
    have f2 := R.2.2 2
    have f3 := R.2.2 3
    have B9 := ((((R.set 0 (.int .i64 hh) (by simp)).set 1 (.int .i64 ep) (by simp)).set 2 (.string r) (by simp)).set 3 (.string p) (by simp))
    have T9 := ((((T.far (c := w.heap.size) (by omega) 0 (.int .i64 hh)).far (c := w.heap.size) (by omega) 1 (.int .i64 ep)).far (c := w.heap.size) (by omega) 2 (.string r)).far (c := w.heap.size) (by omega) 3 (.string p))
    have H9 := ((((H.far (c := w.heap.size) (by omega) 0 (.int .i64 hh)).far (c := w.heap.size) (by omega) 1 (.int .i64 ep)).far (c := w.heap.size) (by omega) 2 (.string r)).far (c := w.heap.size) (by omega) 3 (.string p))
    have Q9 := ((((Q.far (c := w.heap.size) (by omega) 0 (.int .i64 hh)).far (c := w.heap.size) (by omega) 1 (.int .i64 ep)).far (c := w.heap.size) (by omega) 2 (.string r)).far (c := w.heap.size) (by omega) 3 (.string p))
    have SR9 := ((((SR.set (c := w.heap.size) (by omega) 0 (.int .i64 hh)).set (c := w.heap.size) (by omega) 1 (.int .i64 ep)).set (c := w.heap.size) (by omega) 2 (.string r)).set (c := w.heap.size) (by omega) 3 (.string p))
    have X9 : Ext w ((((wa.setCell ⟨w.heap.size, 0, none⟩ (.int .i64 hh)).setCell ⟨w.heap.size, 1, none⟩ (.int .i64 ep)).setCell ⟨w.heap.size, 2, none⟩ (.string r)).setCell ⟨w.heap.size, 3, none⟩ (.string p)) := ((((X.setCell (by dsimp only; omega) (.int .i64 hh)).setCell (by dsimp only; omega) (.int .i64 ep)).setCell (by dsimp only; omega) (.string r)).setCell (by dsimp only; omega) (.string p))
    (refine wpAnyH_ready (rs := [4]) (by kernel_rfl) (by simp) ?_; refine AllReadyH.cons rfl (fun K hK => ?_) AllReadyH.nil; (try simp only [zk1, zk2, zk3]))
    go_simp
    clear z0 f0 z1 f1 z2 f2 z3 f3 R T H Q SR X
    have R := B9
    have T := T9
    have H := H9
    have Q := Q9
    have SR := SR9
    have X := X9
    clear B9 SR9 X9 T9 H9 Q9
    generalize (((wa.setCell ⟨w.heap.size, 0, none⟩ (.int .i64 hh)).setCell ⟨w.heap.size, 1, none⟩ (.int .i64 ep)).setCell ⟨w.heap.size, 2, none⟩ (.string r)).setCell ⟨w.heap.size, 3, none⟩ (.string p) = wb at *
    (try dsimp only)
    refine hK.out _ _ (by exact ⟨H.2.1 0 _ rfl, H.2.1 1 _ rfl, H.2.1 2 _ rfl, H.2.1 3 _ rfl, Q.2.1 0 _ rfl, Q.2.1 1 _ rfl, Q.2.1 2 _ rfl, Q.2.1 3 _ rfl⟩) (fun hHeld => ?_)
    clear hK K
    have z0 := T.2.1 0 _ rfl
    have z1 := T.2.1 1 _ rfl
    have z2 := T.2.1 2 _ rfl
    have z3 := T.2.1 3 _ rfl
    have f0 := T.2.2 0
    have f1 := T.2.2 1
    have f2 := T.2.2 2
    have f3 := T.2.2 3
    have B9 := ((((T.set 0 (.int .i64 S.at_) (by simp)).set 1 (.slice p1 S.op.length d1) (by simp)).set 2 (.slice p2 S.sh.length d2) (by simp)).set 3 (.slice p3 S.si.length d3) (by simp))
    have R9 := ((((R.far (c := (w.heap.size + 1)) (by omega) 0 (.int .i64 S.at_)).far (c := (w.heap.size + 1)) (by omega) 1 (.slice p1 S.op.length d1)).far (c := (w.heap.size + 1)) (by omega) 2 (.slice p2 S.sh.length d2)).far (c := (w.heap.size + 1)) (by omega) 3 (.slice p3 S.si.length d3))
    have H9 := ((((H.far (c := (w.heap.size + 1)) (by omega) 0 (.int .i64 S.at_)).far (c := (w.heap.size + 1)) (by omega) 1 (.slice p1 S.op.length d1)).far (c := (w.heap.size + 1)) (by omega) 2 (.slice p2 S.sh.length d2)).far (c := (w.heap.size + 1)) (by omega) 3 (.slice p3 S.si.length d3))
    have Q9 := ((((Q.far (c := (w.heap.size + 1)) (by omega) 0 (.int .i64 S.at_)).far (c := (w.heap.size + 1)) (by omega) 1 (.slice p1 S.op.length d1)).far (c := (w.heap.size + 1)) (by omega) 2 (.slice p2 S.sh.length d2)).far (c := (w.heap.size + 1)) (by omega) 3 (.slice p3 S.si.length d3))
    have SR9 := ((((SR.set (c := (w.heap.size + 1)) (by omega) 0 (.int .i64 S.at_)).set (c := (w.heap.size + 1)) (by omega) 1 (.slice p1 S.op.length d1)).set (c := (w.heap.size + 1)) (by omega) 2 (.slice p2 S.sh.length d2)).set (c := (w.heap.size + 1)) (by omega) 3 (.slice p3 S.si.length d3))
    have X9 : Ext w ((((wb.setCell ⟨(w.heap.size + 1), 0, none⟩ (.int .i64 S.at_)).setCell ⟨(w.heap.size + 1), 1, none⟩ (.slice p1 S.op.length d1)).setCell ⟨(w.heap.size + 1), 2, none⟩ (.slice p2 S.sh.length d2)).setCell ⟨(w.heap.size + 1), 3, none⟩ (.slice p3 S.si.length d3)) := ((((X.setCell (by dsimp only; omega) (.int .i64 S.at_)).setCell (by dsimp only; omega) (.slice p1 S.op.length d1)).setCell (by dsimp only; omega) (.slice p2 S.sh.length d2)).setCell (by dsimp only; omega) (.slice p3 S.si.length d3))
    (refine wpAnyH_ready (rs := [5]) (by kernel_rfl) (by simp) ?_; refine AllReadyH.cons rfl (fun K hK => ?_) AllReadyH.nil; (try simp only [zk1, zk2, zk3]))
    go_simp
    clear z0 f0 z1 f1 z2 f2 z3 f3 T R H Q SR X
    have T := B9
    have R := R9
    have H := H9
    have Q := Q9
    have SR := SR9
    have X := X9
    clear B9 SR9 X9 R9 H9 Q9
    generalize (((wb.setCell ⟨(w.heap.size + 1), 0, none⟩ (.int .i64 S.at_)).setCell ⟨(w.heap.size + 1), 1, none⟩ (.slice p1 S.op.length d1)).setCell ⟨(w.heap.size + 1), 2, none⟩ (.slice p2 S.sh.length d2)).setCell ⟨(w.heap.size + 1), 3, none⟩ (.slice p3 S.si.length d3) = wc2 at *
    (try dsimp only)
    refine hK.out _ _ (by exact ⟨H.2.1 0 _ rfl, H.2.1 1 _ rfl, H.2.1 2 _ rfl, H.2.1 3 _ rfl, Q.2.1 0 _ rfl, Q.2.1 1 _ rfl, Q.2.1 2 _ rfl, Q.2.1 3 _ rfl⟩) (fun hHeld => ?_)
    clear hK K
    refine wpAnyH_done (by kernel_rfl) ?_ _
    have k0 := R.2.1 0 _ rfl
    have k1 := R.2.1 1 _ rfl
    have k2 := R.2.1 2 _ rfl
    have k3 := R.2.1 3 _ rfl
    have j0 := T.2.1 0 _ rfl
    have j1 := T.2.1 1 _ rfl
    have j2 := T.2.1 2 _ rfl
    have j3 := T.2.1 3 _ rfl
    go_wp2
    refine bodyPost_ret (v := .tuple #[.string tx, .agg #[.int .i64 hh, .int .i64 ep, .string r, .string p], .agg #[.int .i64 S.at_, .slice p1 S.op.length d1, .slice p2 S.sh.length d2, .slice p3 S.si.length d3]]) (by simp [results, Tryd.results58, go_sem, k0, k1, k2, k3, j0, j1, j2, j3]) rfl ?_
    exact ⟨tx, hh, ep, r, p, S, p1, p2, p3, d1, d2, d3, rfl, HFT.out, SR.mono (by omega), X⟩
  by_cases h1 : k = 1
  · subst h1
    have ha := HAT.out
    have z0 := Q.2.1 0 _ rfl
    have f0 := Q.2.2 0
    go_upto_region 16 with (fail)
    clear z0 f0
    have B9 := Q.set 0 (.int .i64 (S.at_ + 1)) (by simp)
    have R9 := R.far (c := qb) (by omega) 0 (.int .i64 (S.at_ + 1))
    have T9 := T.far (c := qb) (by omega) 0 (.int .i64 (S.at_ + 1))
    have H9 := H.far (c := qb) (by omega) 0 (.int .i64 (S.at_ + 1))
    have C9 := C.far (c := qb) (by omega) 0 (.int .i64 (S.at_ + 1))
    have SR9 := SR.set (c := qb) (by omega) 0 (.int .i64 (S.at_ + 1))
    have X9 : Ext w (w12.setCell ⟨qb, 0, none⟩ (.int .i64 (S.at_ + 1))) := X.setCell (by dsimp only; omega) (.int .i64 (S.at_ + 1))
    clear Q R T H SR X C
    have Q := B9
    have R := R9
    have T := T9
    have H := H9
    have SR := SR9
    have X := X9
    have C := C9
    clear B9 SR9 X9 C9 R9 T9 H9
    generalize w12.setCell ⟨qb, 0, none⟩ (.int .i64 (S.at_ + 1)) = w13 at *
    refine wp_region_held_drew (S := (fun W => W.cell? ⟨hb, 0, none⟩ = some (.int .i64 hh) ∧ W.cell? ⟨hb, 1, none⟩ = some (.int .i64 ep) ∧ W.cell? ⟨hb, 2, none⟩ = some (.string r) ∧ W.cell? ⟨hb, 3, none⟩ = some (.string p) ∧ W.cell? ⟨qb, 0, none⟩ = some (.int .i64 (S.at_ + 1)) ∧ W.cell? ⟨qb, 1, none⟩ = some (.slice p1 S.op.length d1) ∧ W.cell? ⟨qb, 2, none⟩ = some (.slice p2 S.sh.length d2) ∧ W.cell? ⟨qb, 3, none⟩ = some (.slice p3 S.si.length d3))) (by kernel_rfl) (by exact ⟨H.2.1 0 _ rfl, H.2.1 1 _ rfl, H.2.1 2 _ rfl, H.2.1 3 _ rfl, Q.2.1 0 _ rfl, Q.2.1 1 _ rfl, Q.2.1 2 _ rfl, Q.2.1 3 _ rfl⟩) (fun hHeld => ?_)
    have xd : Ext w13 w13.drew := (Ext.refl w13).drew
    replace R := R.ext xd
    replace T := T.ext xd
    replace C := C.ext xd
    replace X := X.trans xd
    replace H := H.ext xd
    replace Q := Q.ext xd
    replace SR := SR.ext xd
    generalize w13.drew = wa at *
    have q0 := H.2.1 0 _ rfl
    have q1 := H.2.1 1 _ rfl
    have q2 := H.2.1 2 _ rfl
    have q3 := H.2.1 3 _ rfl
    have q4 := Q.2.1 0 _ rfl
    have q5 := Q.2.1 1 _ rfl
    have q6 := Q.2.1 2 _ rfl
    have q7 := Q.2.1 3 _ rfl
    (refine wpAnyH_take (i := 0) (v := ?_) rfl (by kernel_rfl) (by kernel_rfl) (by kernel_rfl) (fun _ _ _ h => h) (Or.inl ⟨by rfl, ?_⟩) (by assumption) ?_; rotate_left; focus (intro w hSw; (try dsimp only at hSw); (try simp only [zk1, zk2]); go_simp; try with_reducible rfl)); (try simp only [zk1, zk2]); (try simp only [Act.put, zk4, zk5, zk6])
    (refine wpAnyH_take (i := 1) (v := ?_) rfl (by kernel_rfl) (by kernel_rfl) (by kernel_rfl) (fun _ _ _ h => h) (Or.inl ⟨by rfl, ?_⟩) (by assumption) ?_; rotate_left; focus (intro w hSw; (try dsimp only at hSw); (try simp only [zk1, zk2, zk3]); go_simp; try with_reducible rfl)); (try simp only [zk1, zk2, zk3]); (try simp only [Act.put, zk4, zk5, zk6])
    (refine wpAnyH_take (i := 2) (v := ?_) rfl (by kernel_rfl) (by kernel_rfl) (by kernel_rfl) (fun _ _ _ h => h) (Or.inl ⟨by rfl, ?_⟩) (by assumption) ?_; rotate_left; focus (intro w hSw; (try dsimp only at hSw); (try simp only [zk1, zk2, zk3]); go_simp; try with_reducible rfl)); (try simp only [zk1, zk2, zk3]); (try simp only [Act.put, zk4, zk5, zk6])
    (refine wpAnyH_take (i := 3) (v := ?_) rfl (by kernel_rfl) (by kernel_rfl) (by kernel_rfl) (fun _ _ _ h => h) (Or.inl ⟨by rfl, ?_⟩) (by assumption) ?_; rotate_left; focus (intro w hSw; (try dsimp only at hSw); (try simp only [zk1, zk2, zk3]); go_simp; try with_reducible rfl)); (try simp only [zk1, zk2, zk3]); (try simp only [Act.put, zk4, zk5, zk6])
    clear q0 q1 q2 q3 q4 q5 q6 q7 C
    have z0 := R.2.1 0 _ rfl
    have z1 := R.2.1 1 _ rfl
    have z2 := R.2.1 2 _ rfl
    have z3 := R.2.1 3 _ rfl
    have f0 := R.2.2 0
    have f1 := R.2.2 1
    have f2 := R.2.2 2
    have f3 := R.2.2 3
    have B9 := ((((R.set 0 (.int .i64 hh) (by simp)).set 1 (.int .i64 ep) (by simp)).set 2 (.string r) (by simp)).set 3 (.string p) (by simp))
    have T9 := ((((T.far (c := w.heap.size) (by omega) 0 (.int .i64 hh)).far (c := w.heap.size) (by omega) 1 (.int .i64 ep)).far (c := w.heap.size) (by omega) 2 (.string r)).far (c := w.heap.size) (by omega) 3 (.string p))
    have H9 := ((((H.far (c := w.heap.size) (by omega) 0 (.int .i64 hh)).far (c := w.heap.size) (by omega) 1 (.int .i64 ep)).far (c := w.heap.size) (by omega) 2 (.string r)).far (c := w.heap.size) (by omega) 3 (.string p))
    have Q9 := ((((Q.far (c := w.heap.size) (by omega) 0 (.int .i64 hh)).far (c := w.heap.size) (by omega) 1 (.int .i64 ep)).far (c := w.heap.size) (by omega) 2 (.string r)).far (c := w.heap.size) (by omega) 3 (.string p))
    have SR9 := ((((SR.set (c := w.heap.size) (by omega) 0 (.int .i64 hh)).set (c := w.heap.size) (by omega) 1 (.int .i64 ep)).set (c := w.heap.size) (by omega) 2 (.string r)).set (c := w.heap.size) (by omega) 3 (.string p))
    have X9 : Ext w ((((wa.setCell ⟨w.heap.size, 0, none⟩ (.int .i64 hh)).setCell ⟨w.heap.size, 1, none⟩ (.int .i64 ep)).setCell ⟨w.heap.size, 2, none⟩ (.string r)).setCell ⟨w.heap.size, 3, none⟩ (.string p)) := ((((X.setCell (by dsimp only; omega) (.int .i64 hh)).setCell (by dsimp only; omega) (.int .i64 ep)).setCell (by dsimp only; omega) (.string r)).setCell (by dsimp only; omega) (.string p))
    (refine wpAnyH_ready (rs := [4]) (by kernel_rfl) (by simp) ?_; refine AllReadyH.cons rfl (fun K hK => ?_) AllReadyH.nil; (try simp only [zk1, zk2, zk3]))
    go_simp
    clear z0 f0 z1 f1 z2 f2 z3 f3 R T H Q SR X
    have R := B9
    have T := T9
    have H := H9
    have Q := Q9
    have SR := SR9
    have X := X9
    clear B9 SR9 X9 T9 H9 Q9
    generalize (((wa.setCell ⟨w.heap.size, 0, none⟩ (.int .i64 hh)).setCell ⟨w.heap.size, 1, none⟩ (.int .i64 ep)).setCell ⟨w.heap.size, 2, none⟩ (.string r)).setCell ⟨w.heap.size, 3, none⟩ (.string p) = wb at *
    (try dsimp only)
    refine hK.out _ _ (by exact ⟨H.2.1 0 _ rfl, H.2.1 1 _ rfl, H.2.1 2 _ rfl, H.2.1 3 _ rfl, Q.2.1 0 _ rfl, Q.2.1 1 _ rfl, Q.2.1 2 _ rfl, Q.2.1 3 _ rfl⟩) (fun hHeld => ?_)
    clear hK K
    have z0 := T.2.1 0 _ rfl
    have z1 := T.2.1 1 _ rfl
    have z2 := T.2.1 2 _ rfl
    have z3 := T.2.1 3 _ rfl
    have f0 := T.2.2 0
    have f1 := T.2.2 1
    have f2 := T.2.2 2
    have f3 := T.2.2 3
    have B9 := ((((T.set 0 (.int .i64 (S.at_ + 1)) (by simp)).set 1 (.slice p1 S.op.length d1) (by simp)).set 2 (.slice p2 S.sh.length d2) (by simp)).set 3 (.slice p3 S.si.length d3) (by simp))
    have R9 := ((((R.far (c := (w.heap.size + 1)) (by omega) 0 (.int .i64 (S.at_ + 1))).far (c := (w.heap.size + 1)) (by omega) 1 (.slice p1 S.op.length d1)).far (c := (w.heap.size + 1)) (by omega) 2 (.slice p2 S.sh.length d2)).far (c := (w.heap.size + 1)) (by omega) 3 (.slice p3 S.si.length d3))
    have H9 := ((((H.far (c := (w.heap.size + 1)) (by omega) 0 (.int .i64 (S.at_ + 1))).far (c := (w.heap.size + 1)) (by omega) 1 (.slice p1 S.op.length d1)).far (c := (w.heap.size + 1)) (by omega) 2 (.slice p2 S.sh.length d2)).far (c := (w.heap.size + 1)) (by omega) 3 (.slice p3 S.si.length d3))
    have Q9 := ((((Q.far (c := (w.heap.size + 1)) (by omega) 0 (.int .i64 (S.at_ + 1))).far (c := (w.heap.size + 1)) (by omega) 1 (.slice p1 S.op.length d1)).far (c := (w.heap.size + 1)) (by omega) 2 (.slice p2 S.sh.length d2)).far (c := (w.heap.size + 1)) (by omega) 3 (.slice p3 S.si.length d3))
    have SR9 := ((((SR.set (c := (w.heap.size + 1)) (by omega) 0 (.int .i64 (S.at_ + 1))).set (c := (w.heap.size + 1)) (by omega) 1 (.slice p1 S.op.length d1)).set (c := (w.heap.size + 1)) (by omega) 2 (.slice p2 S.sh.length d2)).set (c := (w.heap.size + 1)) (by omega) 3 (.slice p3 S.si.length d3))
    have X9 : Ext w ((((wb.setCell ⟨(w.heap.size + 1), 0, none⟩ (.int .i64 (S.at_ + 1))).setCell ⟨(w.heap.size + 1), 1, none⟩ (.slice p1 S.op.length d1)).setCell ⟨(w.heap.size + 1), 2, none⟩ (.slice p2 S.sh.length d2)).setCell ⟨(w.heap.size + 1), 3, none⟩ (.slice p3 S.si.length d3)) := ((((X.setCell (by dsimp only; omega) (.int .i64 (S.at_ + 1))).setCell (by dsimp only; omega) (.slice p1 S.op.length d1)).setCell (by dsimp only; omega) (.slice p2 S.sh.length d2)).setCell (by dsimp only; omega) (.slice p3 S.si.length d3))
    (refine wpAnyH_ready (rs := [5]) (by kernel_rfl) (by simp) ?_; refine AllReadyH.cons rfl (fun K hK => ?_) AllReadyH.nil; (try simp only [zk1, zk2, zk3]))
    go_simp
    clear z0 f0 z1 f1 z2 f2 z3 f3 T R H Q SR X
    have T := B9
    have R := R9
    have H := H9
    have Q := Q9
    have SR := SR9
    have X := X9
    clear B9 SR9 X9 R9 H9 Q9
    generalize (((wb.setCell ⟨(w.heap.size + 1), 0, none⟩ (.int .i64 (S.at_ + 1))).setCell ⟨(w.heap.size + 1), 1, none⟩ (.slice p1 S.op.length d1)).setCell ⟨(w.heap.size + 1), 2, none⟩ (.slice p2 S.sh.length d2)).setCell ⟨(w.heap.size + 1), 3, none⟩ (.slice p3 S.si.length d3) = wc2 at *
    (try dsimp only)
    refine hK.out _ _ (by exact ⟨H.2.1 0 _ rfl, H.2.1 1 _ rfl, H.2.1 2 _ rfl, H.2.1 3 _ rfl, Q.2.1 0 _ rfl, Q.2.1 1 _ rfl, Q.2.1 2 _ rfl, Q.2.1 3 _ rfl⟩) (fun hHeld => ?_)
    clear hK K
    refine wpAnyH_done (by kernel_rfl) ?_ _
    have k0 := R.2.1 0 _ rfl
    have k1 := R.2.1 1 _ rfl
    have k2 := R.2.1 2 _ rfl
    have k3 := R.2.1 3 _ rfl
    have j0 := T.2.1 0 _ rfl
    have j1 := T.2.1 1 _ rfl
    have j2 := T.2.1 2 _ rfl
    have j3 := T.2.1 3 _ rfl
    go_wp2
    refine bodyPost_ret (v := .tuple #[.string rt, .agg #[.int .i64 hh, .int .i64 ep, .string r, .string p], .agg #[.int .i64 (S.at_ + 1), .slice p1 S.op.length d1, .slice p2 S.sh.length d2, .slice p3 S.si.length d3]]) (by simp [results, Tryd.results58, go_sem, k0, k1, k2, k3, j0, j1, j2, j3]) rfl ?_
    exact ⟨rt, hh, ep, r, p, { S with at_ := S.at_ + 1 }, p1, p2, p3, d1, d2, d3, rfl, HFT.out, SR.mono (by omega), X⟩
  · obtain rfl : k = 2 := by omega
    go_wp2_with fail
    refine (spec_l13Root b _ C).mono ?_
    clear C
    rintro e w13 ⟨r2, rfl, -, C, M⟩
    replace R := R.mut M nb1
    replace T := T.mut M nb2
    replace H := H.mut M nb3
    replace Q := Q.mut M nq
    replace SR := sigRd_mut SR M (by omega)
    replace X := X.mut M hwb
    clear M
    have z0 := H.2.1 2 _ rfl
    have f0 := H.2.2 2
    go_upto_region 16 with (fail)
    clear z0 f0
    have B9 := H.set 2 (.string r2) (by simp)
    have R9 := R.far (c := hb) (by omega) 2 (.string r2)
    have T9 := T.far (c := hb) (by omega) 2 (.string r2)
    have Q9 := Q.far (c := hb) (by omega) 2 (.string r2)
    have C9 := C.far (c := hb) (by omega) 2 (.string r2)
    have SR9 := SR.set (c := hb) (by omega) 2 (.string r2)
    have X9 : Ext w (w13.setCell ⟨hb, 2, none⟩ (.string r2)) := X.setCell (by dsimp only; omega) (.string r2)
    clear H R T Q SR X C
    have H := B9
    have R := R9
    have T := T9
    have Q := Q9
    have SR := SR9
    have X := X9
    have C := C9
    clear B9 SR9 X9 C9 R9 T9 Q9
    generalize w13.setCell ⟨hb, 2, none⟩ (.string r2) = w14 at *
    refine wp_region_held_drew (S := (fun W => W.cell? ⟨hb, 0, none⟩ = some (.int .i64 hh) ∧ W.cell? ⟨hb, 1, none⟩ = some (.int .i64 ep) ∧ W.cell? ⟨hb, 2, none⟩ = some (.string r2) ∧ W.cell? ⟨hb, 3, none⟩ = some (.string p) ∧ W.cell? ⟨qb, 0, none⟩ = some (.int .i64 S.at_) ∧ W.cell? ⟨qb, 1, none⟩ = some (.slice p1 S.op.length d1) ∧ W.cell? ⟨qb, 2, none⟩ = some (.slice p2 S.sh.length d2) ∧ W.cell? ⟨qb, 3, none⟩ = some (.slice p3 S.si.length d3))) (by kernel_rfl) (by exact ⟨H.2.1 0 _ rfl, H.2.1 1 _ rfl, H.2.1 2 _ rfl, H.2.1 3 _ rfl, Q.2.1 0 _ rfl, Q.2.1 1 _ rfl, Q.2.1 2 _ rfl, Q.2.1 3 _ rfl⟩) (fun hHeld => ?_)
    have xd : Ext w14 w14.drew := (Ext.refl w14).drew
    replace R := R.ext xd
    replace T := T.ext xd
    replace C := C.ext xd
    replace X := X.trans xd
    replace H := H.ext xd
    replace Q := Q.ext xd
    replace SR := SR.ext xd
    generalize w14.drew = wa at *
    have q0 := H.2.1 0 _ rfl
    have q1 := H.2.1 1 _ rfl
    have q2 := H.2.1 2 _ rfl
    have q3 := H.2.1 3 _ rfl
    have q4 := Q.2.1 0 _ rfl
    have q5 := Q.2.1 1 _ rfl
    have q6 := Q.2.1 2 _ rfl
    have q7 := Q.2.1 3 _ rfl
    (refine wpAnyH_take (i := 0) (v := ?_) rfl (by kernel_rfl) (by kernel_rfl) (by kernel_rfl) (fun _ _ _ h => h) (Or.inl ⟨by rfl, ?_⟩) (by assumption) ?_; rotate_left; focus (intro w hSw; (try dsimp only at hSw); (try simp only [zk1, zk2]); go_simp; try with_reducible rfl)); (try simp only [zk1, zk2]); (try simp only [Act.put, zk4, zk5, zk6])
    (refine wpAnyH_take (i := 1) (v := ?_) rfl (by kernel_rfl) (by kernel_rfl) (by kernel_rfl) (fun _ _ _ h => h) (Or.inl ⟨by rfl, ?_⟩) (by assumption) ?_; rotate_left; focus (intro w hSw; (try dsimp only at hSw); (try simp only [zk1, zk2, zk3]); go_simp; try with_reducible rfl)); (try simp only [zk1, zk2, zk3]); (try simp only [Act.put, zk4, zk5, zk6])
    (refine wpAnyH_take (i := 2) (v := ?_) rfl (by kernel_rfl) (by kernel_rfl) (by kernel_rfl) (fun _ _ _ h => h) (Or.inl ⟨by rfl, ?_⟩) (by assumption) ?_; rotate_left; focus (intro w hSw; (try dsimp only at hSw); (try simp only [zk1, zk2, zk3]); go_simp; try with_reducible rfl)); (try simp only [zk1, zk2, zk3]); (try simp only [Act.put, zk4, zk5, zk6])
    (refine wpAnyH_take (i := 3) (v := ?_) rfl (by kernel_rfl) (by kernel_rfl) (by kernel_rfl) (fun _ _ _ h => h) (Or.inl ⟨by rfl, ?_⟩) (by assumption) ?_; rotate_left; focus (intro w hSw; (try dsimp only at hSw); (try simp only [zk1, zk2, zk3]); go_simp; try with_reducible rfl)); (try simp only [zk1, zk2, zk3]); (try simp only [Act.put, zk4, zk5, zk6])
    clear q0 q1 q2 q3 q4 q5 q6 q7 C
    have z0 := R.2.1 0 _ rfl
    have z1 := R.2.1 1 _ rfl
    have z2 := R.2.1 2 _ rfl
    have z3 := R.2.1 3 _ rfl
    have f0 := R.2.2 0
    have f1 := R.2.2 1
    have f2 := R.2.2 2
    have f3 := R.2.2 3
    have B9 := ((((R.set 0 (.int .i64 hh) (by simp)).set 1 (.int .i64 ep) (by simp)).set 2 (.string r2) (by simp)).set 3 (.string p) (by simp))
    have T9 := ((((T.far (c := w.heap.size) (by omega) 0 (.int .i64 hh)).far (c := w.heap.size) (by omega) 1 (.int .i64 ep)).far (c := w.heap.size) (by omega) 2 (.string r2)).far (c := w.heap.size) (by omega) 3 (.string p))
    have H9 := ((((H.far (c := w.heap.size) (by omega) 0 (.int .i64 hh)).far (c := w.heap.size) (by omega) 1 (.int .i64 ep)).far (c := w.heap.size) (by omega) 2 (.string r2)).far (c := w.heap.size) (by omega) 3 (.string p))
    have Q9 := ((((Q.far (c := w.heap.size) (by omega) 0 (.int .i64 hh)).far (c := w.heap.size) (by omega) 1 (.int .i64 ep)).far (c := w.heap.size) (by omega) 2 (.string r2)).far (c := w.heap.size) (by omega) 3 (.string p))
    have SR9 := ((((SR.set (c := w.heap.size) (by omega) 0 (.int .i64 hh)).set (c := w.heap.size) (by omega) 1 (.int .i64 ep)).set (c := w.heap.size) (by omega) 2 (.string r2)).set (c := w.heap.size) (by omega) 3 (.string p))
    have X9 : Ext w ((((wa.setCell ⟨w.heap.size, 0, none⟩ (.int .i64 hh)).setCell ⟨w.heap.size, 1, none⟩ (.int .i64 ep)).setCell ⟨w.heap.size, 2, none⟩ (.string r2)).setCell ⟨w.heap.size, 3, none⟩ (.string p)) := ((((X.setCell (by dsimp only; omega) (.int .i64 hh)).setCell (by dsimp only; omega) (.int .i64 ep)).setCell (by dsimp only; omega) (.string r2)).setCell (by dsimp only; omega) (.string p))
    (refine wpAnyH_ready (rs := [4]) (by kernel_rfl) (by simp) ?_; refine AllReadyH.cons rfl (fun K hK => ?_) AllReadyH.nil; (try simp only [zk1, zk2, zk3]))
    go_simp
    clear z0 f0 z1 f1 z2 f2 z3 f3 R T H Q SR X
    have R := B9
    have T := T9
    have H := H9
    have Q := Q9
    have SR := SR9
    have X := X9
    clear B9 SR9 X9 T9 H9 Q9
    generalize (((wa.setCell ⟨w.heap.size, 0, none⟩ (.int .i64 hh)).setCell ⟨w.heap.size, 1, none⟩ (.int .i64 ep)).setCell ⟨w.heap.size, 2, none⟩ (.string r2)).setCell ⟨w.heap.size, 3, none⟩ (.string p) = wb at *
    (try dsimp only)
    refine hK.out _ _ (by exact ⟨H.2.1 0 _ rfl, H.2.1 1 _ rfl, H.2.1 2 _ rfl, H.2.1 3 _ rfl, Q.2.1 0 _ rfl, Q.2.1 1 _ rfl, Q.2.1 2 _ rfl, Q.2.1 3 _ rfl⟩) (fun hHeld => ?_)
    clear hK K
    have z0 := T.2.1 0 _ rfl
    have z1 := T.2.1 1 _ rfl
    have z2 := T.2.1 2 _ rfl
    have z3 := T.2.1 3 _ rfl
    have f0 := T.2.2 0
    have f1 := T.2.2 1
    have f2 := T.2.2 2
    have f3 := T.2.2 3
    have B9 := ((((T.set 0 (.int .i64 S.at_) (by simp)).set 1 (.slice p1 S.op.length d1) (by simp)).set 2 (.slice p2 S.sh.length d2) (by simp)).set 3 (.slice p3 S.si.length d3) (by simp))
    have R9 := ((((R.far (c := (w.heap.size + 1)) (by omega) 0 (.int .i64 S.at_)).far (c := (w.heap.size + 1)) (by omega) 1 (.slice p1 S.op.length d1)).far (c := (w.heap.size + 1)) (by omega) 2 (.slice p2 S.sh.length d2)).far (c := (w.heap.size + 1)) (by omega) 3 (.slice p3 S.si.length d3))
    have H9 := ((((H.far (c := (w.heap.size + 1)) (by omega) 0 (.int .i64 S.at_)).far (c := (w.heap.size + 1)) (by omega) 1 (.slice p1 S.op.length d1)).far (c := (w.heap.size + 1)) (by omega) 2 (.slice p2 S.sh.length d2)).far (c := (w.heap.size + 1)) (by omega) 3 (.slice p3 S.si.length d3))
    have Q9 := ((((Q.far (c := (w.heap.size + 1)) (by omega) 0 (.int .i64 S.at_)).far (c := (w.heap.size + 1)) (by omega) 1 (.slice p1 S.op.length d1)).far (c := (w.heap.size + 1)) (by omega) 2 (.slice p2 S.sh.length d2)).far (c := (w.heap.size + 1)) (by omega) 3 (.slice p3 S.si.length d3))
    have SR9 := ((((SR.set (c := (w.heap.size + 1)) (by omega) 0 (.int .i64 S.at_)).set (c := (w.heap.size + 1)) (by omega) 1 (.slice p1 S.op.length d1)).set (c := (w.heap.size + 1)) (by omega) 2 (.slice p2 S.sh.length d2)).set (c := (w.heap.size + 1)) (by omega) 3 (.slice p3 S.si.length d3))
    have X9 : Ext w ((((wb.setCell ⟨(w.heap.size + 1), 0, none⟩ (.int .i64 S.at_)).setCell ⟨(w.heap.size + 1), 1, none⟩ (.slice p1 S.op.length d1)).setCell ⟨(w.heap.size + 1), 2, none⟩ (.slice p2 S.sh.length d2)).setCell ⟨(w.heap.size + 1), 3, none⟩ (.slice p3 S.si.length d3)) := ((((X.setCell (by dsimp only; omega) (.int .i64 S.at_)).setCell (by dsimp only; omega) (.slice p1 S.op.length d1)).setCell (by dsimp only; omega) (.slice p2 S.sh.length d2)).setCell (by dsimp only; omega) (.slice p3 S.si.length d3))
    (refine wpAnyH_ready (rs := [5]) (by kernel_rfl) (by simp) ?_; refine AllReadyH.cons rfl (fun K hK => ?_) AllReadyH.nil; (try simp only [zk1, zk2, zk3]))
    go_simp
    clear z0 f0 z1 f1 z2 f2 z3 f3 T R H Q SR X
    have T := B9
    have R := R9
    have H := H9
    have Q := Q9
    have SR := SR9
    have X := X9
    clear B9 SR9 X9 R9 H9 Q9
    generalize (((wb.setCell ⟨(w.heap.size + 1), 0, none⟩ (.int .i64 S.at_)).setCell ⟨(w.heap.size + 1), 1, none⟩ (.slice p1 S.op.length d1)).setCell ⟨(w.heap.size + 1), 2, none⟩ (.slice p2 S.sh.length d2)).setCell ⟨(w.heap.size + 1), 3, none⟩ (.slice p3 S.si.length d3) = wc2 at *
    (try dsimp only)
    refine hK.out _ _ (by exact ⟨H.2.1 0 _ rfl, H.2.1 1 _ rfl, H.2.1 2 _ rfl, H.2.1 3 _ rfl, Q.2.1 0 _ rfl, Q.2.1 1 _ rfl, Q.2.1 2 _ rfl, Q.2.1 3 _ rfl⟩) (fun hHeld => ?_)
    clear hK K
    refine wpAnyH_done (by kernel_rfl) ?_ _
    have k0 := R.2.1 0 _ rfl
    have k1 := R.2.1 1 _ rfl
    have k2 := R.2.1 2 _ rfl
    have k3 := R.2.1 3 _ rfl
    have j0 := T.2.1 0 _ rfl
    have j1 := T.2.1 1 _ rfl
    have j2 := T.2.1 2 _ rfl
    have j3 := T.2.1 3 _ rfl
    go_wp2
    refine bodyPost_ret (v := .tuple #[.string rt, .agg #[.int .i64 hh, .int .i64 ep, .string r2, .string p], .agg #[.int .i64 S.at_, .slice p1 S.op.length d1, .slice p2 S.sh.length d2, .slice p3 S.si.length d3]]) (by simp [results, Tryd.results58, go_sem, k0, k1, k2, k3, j0, j1, j2, j3]) rfl ?_
    exact ⟨rt, hh, ep, r2, p, S, p1, p2, p3, d1, d2, d3, rfl, HFT.out, SR.mono (by omega), X⟩
end Go.Proofs.YtliebkhfddmhjaaDoor
namespace Go.Proofs.YtliebkhfddmhjaaDoor
open Go.RowKit

theorem infoIntS : (Tryd.prog.info? 3).map (fun i => (i.zero, i.size, i.bytes)) = some (some (.int .i64 0), 1, 8) := by kernel_rfl
def seenL (n : Nat) : List Value := (List.range n).map fun j : Nat => Value.int .i64 (j : Int)
theorem seenL_succ (n : Nat) : seenL (n + 1) = seenL n ++ [.int .i64 (n : Int)] := by simp [seenL, List.range_succ]
theorem sealAt_k {k : Nat} (h : k < 4) : sealAt ((k : Int) + 1) = k := by
  rw [sealAt, if_pos (inB_true.2 (by omega))]
  omega
theorem stampAt_k {h k : Nat} (hh : h < 3) (hk : k < 4) : stampAt (h : Int) ((k : Int) + 1) = ((4 * (h + 1) + k : Nat) : Int) := by
  rw [stampAt, if_pos (by rw [inB_true.2 (by omega), inB_true.2 (by omega)]; rfl)]
  omega
theorem sealOk_head {root : ByteArray} {hh ep : Int} {r p : ByteArray} {s : SigV} (h : sealOkB root hh ep r p s = true) : headOk hh ep r p = true := by
  simp only [sealOkB, Bool.and_eq_true] at h
  exact h.1
theorem stamp_law {seed : ByteArray} {hh ep : Int} {r p : ByteArray} (hs : seed.size ≤ 100) (hok : headOk hh ep r p = true) :
    stK seed (poolK seed 16) hh ep r p = true ∧ stampOkB (poolRt (poolK seed 16)) hh ep r p (stV seed (poolK seed 16) hh ep r p) = true ∧ SigFit (stV seed (poolK seed 16) hh ep r p) := by
  obtain ⟨h0, he, -⟩ := headOk_true hok
  have hst : stampAt hh ep = 4 * (hh + 1) + ep - 1 := by rw [stampAt, if_pos (by rw [inB_true.2 (by omega), inB_true.2 (by omega)]; rfl)]
  obtain ⟨a, ha⟩ := Int.eq_ofNat_of_zero_le (show 0 ≤ stampAt hh ep by omega)
  have ha16 : a < 16 := by omega
  have hk : sgnOk seed (poolK seed 16) (stampAt hh ep) (stampH hh ep r p) = true := by rw [ha]; exact sgn_pool ha16 hs (Nat.le_trans (tagH_le 8 _ 16) (by decide))
  have hv : stV seed (poolK seed 16) hh ep r p = sgnV seed (poolK seed 16) (stampAt hh ep) (stampH hh ep r p) := by rw [stV, if_pos hok]
  refine ⟨by rw [stK, hok, hk]; rfl, ?_, stV_fit hh ep r p hs⟩
  rw [hv, stampOkB, hok, sgn_at hk, decide_eq_true rfl, sg_ok hk]
  rfl
set_option maxHeartbeats 800000 in
theorem laws_in (n : Nat) (v : Value) (x : Int) (w : World) {base : Nat} (h : w.ownsRow base 3 1 v n (seenL n)) (hn : n ≤ 16) (hx : (n : Int) ≤ x) :
    Calls Tryd.prog 56 #[v, .int .i64 x] w fun e w' => e = .returned (.bool false) ∧ w = w' := by
  obtain ⟨ga, gc, rfl⟩ := own_any h
  have HO := Lib.hid h
  clear h
  go_enter Tryd.func56, Tryd.ntmps56
  go_wp2
  go_loopw [5] (fun i wr => ∃ k : Nat, k ≤ n ∧ i = .int .i64 k ∧ wr = w) (fun i _ => n - (intOf i).toNat)
  case atStart => exact ⟨0, Nat.zero_le _, rfl, by trivial⟩
  case round =>
    obtain ⟨k, hk, rfl, rfl⟩ := hrel
    by_cases hlt : k < n
    · obtain ⟨g, c, he⟩ := own_form HO.out (by omega)
      injection he with e1 e2 e3
      subst e1 e3
      have hc : wr.cell? ⟨g, k, none⟩ = some (.int .i64 (k : Int)) := by rw [HO.out.cellAt k (by omega), seenL, List.getElem?_map, List.getElem?_range hlt]; rfl
      have hne : ((k : Int) == x) = false := beq_eq_false_iff_ne.2 (by omega)
      have hlti : (k : Int) < n := by omega
      go_wp2
      go_roundw
      case rel => exact ⟨k + 1, by omega, by go_num, by trivial⟩
      case measure => simp [intOf]; omega
    · have hlti : ¬ (k : Int) < n := by omega
      go_wp2
      go_ret
      exact ⟨rfl, rfl⟩
set_option maxRecDepth 100000 in
set_option maxHeartbeats 12800000 in
theorem laws_FnStamps (v : Value) (bs : List Int) (w : World) (h : Code w w.heap.size v bs) (hT : Tabs w) :
    Calls Tryd.prog 8 #[v] w fun e w' => e = .returned (.bool true) ∧ Ext w w' := by
  obtain ⟨i0, hi, hz0, hz1, hz2⟩ := info_parts infoIntS
  have HT := Lib.hid hT
  clear hT
  have HC := Lib.hid h
  obtain ⟨a0, cap, rfl, -, -⟩ := id h
  by_cases hb : (1048576 : Int) < bs.length
  · go_enter Tryd.func8, Tryd.ntmps8
    go_wp2_with (go_at_call 27; refine (laws_big _ _ bs _ HC.out).mono ?_; rintro e w' ⟨rfl, rfl⟩)
    go_ret
    exact ⟨rfl, (by repeat (first | (with_reducible first | exact Ext.refl _ | assumption | apply Ext.alloc | apply Ext.drew | apply Ext.drewN | refine Ext.setCell ?_ ?_ _ | refine Ext.trans ?_ (by assumption)) | (show _ ≤ _; first | omega | (dsimp only; omega) | (simp; done) | (simp; omega))))⟩
  have hl : bs.length ≤ 1048576 := by omega
  clear h
  go_enter Tryd.func8, Tryd.ntmps8
  go_wp2_with fail
  refine (laws_big _ _ bs _ HC.out).mono ?_
  rintro e w' ⟨rfl, rfl⟩
  go_wp2_with fail
  refine (spec_DrawSeal _ bs _ HC.out hl).mono ?_
  rintro e w1 ⟨hh, ep, r, p, rt0, S, a1, a2, a3, c1, c2, c3, rfl, -, -, hok, -, X⟩
  have e1 : Ext w1 (w1.alloc (Obj.cells #[.int .i64 hh, .int .i64 ep, .string r, .string p, .int .i64 S.at_, .slice a1 S.op.length c1, .slice a2 S.sh.length c2, .slice a3 S.si.length c3] 39)) := (Ext.refl _).alloc _
  have P := Bx.new w1 #[.int .i64 hh, .int .i64 ep, .string r, .string p, .int .i64 S.at_, .slice a1 S.op.length c1, .slice a2 S.sh.length c2, .slice a3 S.si.length c3] 39
  have HL := Lib.hid (stamp_law (seed := ⟨#[111, 110, 101]⟩) (by decide) (sealOk_head hok))
  clear hok
  replace X := X.trans e1
  go_wp2_with fail
  generalize w1.alloc (Obj.cells #[.int .i64 hh, .int .i64 ep, .string r, .string p, .int .i64 S.at_, .slice a1 S.op.length c1, .slice a2 S.sh.length c2, .slice a3 S.si.length c3] 39) = w2 at *
  generalize w1.heap.size = B at *
  clear e1
  have HPF := Lib.hid (fun (s : ByteArray) (hs : s ∈ poolK ⟨#[111, 110, 101]⟩ 16) => show s.size ≤ maxLen by have := poolK_fit ⟨#[111, 110, 101]⟩ 16 s hs; unfold maxLen; omega)
  refine (spec_PoolOf ⟨#[111, 110, 101]⟩ _).mono ?_
  rintro e w3 ⟨pa, pc, rfl, own, x3⟩
  replace X := X.trans x3
  replace P := P.ext x3
  obtain ⟨g, c', he⟩ := own_form own (by rw [poolK_len]; omega)
  injection he with e1 e2 e3
  subst e1 e3
  clear e2
  have ST := Lib.hid own.strs
  clear own
  obtain ⟨pool, hpool⟩ : ∃ z, poolK ⟨#[111, 110, 101]⟩ 16 = z := ⟨_, rfl⟩
  rw [hpool] at HL HPF ST
  clear hpool
  have p0 := P.2.1 0 _ rfl
  have p1 := P.2.1 1 _ rfl
  have p2 := P.2.1 2 _ rfl
  have p3 := P.2.1 3 _ rfl
  have p4 := P.2.1 4 _ rfl
  have p5 := P.2.1 5 _ rfl
  have p6 := P.2.1 6 _ rfl
  have p7 := P.2.1 7 _ rfl
  go_wp2_with fail
  refine (impl_StampHead ⟨#[111, 110, 101]⟩ _ pool hh ep r p _ ST.out HPF.out (solid_some _ _ _ _) (HT.out.ext X)).mono ?_
  have hk1 := HL.out.1
  have hk2 := Lib.hid HL.out.2.1
  have hk3 := HL.out.2.2
  rw [hk1]
  clear HL hk1
  generalize stV ⟨#[111, 110, 101]⟩ pool hh ep r p = T at *
  have HTF := Lib.hid hk3
  clear hk3
  rintro e w4 ⟨d1, e1, d2, e2, d3, e3, rfl, tto, x4⟩
  clear p0 p1 p2 p3 p4 p5 p6 p7
  replace X := X.trans x4
  replace P := P.ext x4
  replace ST := Lib.hid (ST.out.ext x4)
  have e4 : Ext w4 (w4.alloc (Obj.cells #[.int .i64 T.at_, .slice d1 T.op.length e1, .slice d2 T.sh.length e2, .slice d3 T.si.length e3] 28)) := (Ext.refl _).alloc _
  have Q := Bx.new w4 #[.int .i64 T.at_, .slice d1 T.op.length e1, .slice d2 T.sh.length e2, .slice d3 T.si.length e3] 28
  have TO := (sigRd_of tto).ext e4
  clear tto
  replace X := X.trans e4
  replace P := P.ext e4
  replace ST := Lib.hid (ST.out.ext e4)
  go_wp2_with fail
  generalize w4.alloc (Obj.cells #[.int .i64 T.at_, .slice d1 T.op.length e1, .slice d2 T.sh.length e2, .slice d3 T.si.length e3] 28) = w5 at *
  generalize w4.heap.size = D at *
  clear e4
  refine (spec_PoolRoot _ pool _ ST.out HPF.out (solid_some _ _ _ _)).mono ?_
  generalize poolRt pool = rt at *
  rintro e w6 ⟨rfl, x6⟩
  replace X := X.trans x6
  replace P := P.ext x6
  replace ST := Lib.hid (ST.out.ext x6)
  replace Q := Q.ext x6
  replace TO := TO.ext x6
  clear ST HPF
  go_wp2_with fail
  go_loopw [9, 10] (fun v i wr => ∃ k : Nat, k ≤ 4 ∧ i = .int .i64 ((k : Int) + 1) ∧ wr.ownsRow w6.heap.size 3 1 v k (seenL k) ∧ Ext w6 wr) (fun _ i _ => 5 - (intOf i).toNat)
  case atStart => exact ⟨0, by omega, rfl, World.ownsRow_lit w6 #[] 0 (Nat.le_refl _) (Nat.zero_le _) rfl, (Ext.refl _).alloc _⟩
  case round =>
    obtain ⟨k, hk4, rfl, hown, hx⟩ := hrel
    obtain ⟨ga, gc, rfl⟩ := own_any hown
    have HO := Lib.hid hown
    clear hown
    have hsx := hx.size
    by_cases hlt : k < 4
    · have hle : (k : Int) + 1 ≤ 4 := by omega
      have HK := Lib.hid (sealAt_k hlt)
      go_wp2_with fail
      refine (impl_SealAt _ _).mono ?_
      rw [HK.out]
      rintro e w' ⟨rfl, rfl⟩
      go_wp2_with fail
      refine (laws_in k _ _ _ HO.out (by omega) (Int.le_refl _)).mono ?_
      rintro e w' ⟨rfl, rfl⟩
      go_wp2_with fail
      refine (impl_SealAt _ _).mono ?_
      rw [HK.out]
      rintro e w' ⟨rfl, rfl⟩
      go_wp2_with (at_builtin; refine wpList_append_own _ rfl (.tmp 42) (.tmp 45) 50 rfl w6.heap.size 3 i0 (.int .i64 0) 1 8 Tryd.underlying50 hi hz0 hz1 hz2 rfl (by decide) _ _ _ rfl (HO.out.alloc _) ⟨wr.heap.size, 0, none⟩ 1 1 [.int .i64 ((k : Int))] rfl rfl (World.news_of_block (heap_alloc_new wr _)) (by intro u hu; rw [List.mem_singleton] at hu; rw [hu]; rfl) (by unfold maxLen; omega) (by omega) (by simp; omega) ?_)
      intro v3 w7 own3 hgrow _
      have X3 : Ext w6 w7 := own_ext_of (hx.alloc _) (own_alloc HO.out _) hgrow (Nat.le_refl _)
      obtain ⟨a3, c3, rfl⟩ := own_any own3
      have O3 := Lib.hid own3
      clear own3 hgrow HK
      go_wp2
      go_roundw
      case rel => exact ⟨k + 1, by omega, by go_num, by rw [seenL_succ]; exact O3.out, X3⟩
      case measure => simp [intOf]; omega
    · obtain ⟨q, hq⟩ : ∃ q : Int, (k : Int) + 1 = q := ⟨_, rfl⟩
      rw [hq]
      have hq4 : ¬ q ≤ 4 := by omega
      clear hq
      obtain rfl : k = 4 := by omega
      go_wp2_with fail
      go_loopw [9, 11] (fun v i w2r => ∃ k : Nat, k ≤ 3 ∧ i = .int .i64 (k : Int) ∧ w2r.ownsRow w6.heap.size 3 1 v (4 * (k + 1)) (seenL (4 * (k + 1))) ∧ Ext w6 w2r) (fun _ i _ => 3 - (intOf i).toNat)
      case atStart => exact ⟨0, by omega, rfl, HO.out, hx⟩
      case round =>
        obtain ⟨h, hh3, rfl, hown, hx2⟩ := hrel
        obtain ⟨gb, gd, rfl⟩ := own_any hown
        have HO2 := Lib.hid hown
        clear hown HO
        have hsx2 := hx2.size
        by_cases hlt : h < 3
        · have hle : (h : Int) < 3 := by omega
          go_wp2_with fail
          go_loopw [9, 12] (fun v i w3r => ∃ k : Nat, k ≤ 4 ∧ i = .int .i64 ((k : Int) + 1) ∧ w3r.ownsRow w6.heap.size 3 1 v (4 * (h + 1) + k) (seenL (4 * (h + 1) + k)) ∧ Ext w6 w3r) (fun _ i _ => 5 - (intOf i).toNat)
          case atStart => exact ⟨0, by omega, rfl, HO2.out, hx2⟩
          case round =>
            obtain ⟨k, hk4, rfl, hown, hx3⟩ := hrel
            obtain ⟨gb, gd, rfl⟩ := own_any hown
            have HO := Lib.hid hown
            clear hown HO2
            have hsx3 := hx3.size
            by_cases hlk : k < 4
            · have hle2 : (k : Int) + 1 ≤ 4 := by omega
              have HK := Lib.hid (stampAt_k hlt hlk)
              obtain ⟨m, hm⟩ : ∃ m, 4 * (h + 1) + k = m := ⟨_, rfl⟩
              have hm16 : m ≤ 16 := by omega
              have HM := Lib.hid hm
              rw [hm] at HK HO
              rw [hm]
              clear hm
              go_wp2_with fail
              refine (impl_StampAt _ _ _).mono ?_
              rw [HK.out]
              rintro e w' ⟨rfl, rfl⟩
              go_wp2_with fail
              refine (laws_in m _ _ _ HO.out (by omega) (Int.le_refl _)).mono ?_
              rintro e w' ⟨rfl, rfl⟩
              go_wp2_with fail
              refine (impl_StampAt _ _ _).mono ?_
              rw [HK.out]
              rintro e w' ⟨rfl, rfl⟩
              go_wp2_with (at_builtin; refine wpList_append_own _ rfl (.tmp 60) (.tmp 64) 50 rfl w6.heap.size 3 i0 (.int .i64 0) 1 8 Tryd.underlying50 hi hz0 hz1 hz2 rfl (by decide) _ _ _ rfl (HO.out.alloc _) ⟨wr.heap.size, 0, none⟩ 1 1 [.int .i64 ((m : Int))] rfl rfl (World.news_of_block (heap_alloc_new wr _)) (by intro u hu; rw [List.mem_singleton] at hu; rw [hu]; rfl) (by unfold maxLen; omega) (by omega) (by simp; omega) ?_)
              intro v3 w7 own3 hgrow _
              have X3 : Ext w6 w7 := own_ext_of (hx3.alloc _) (own_alloc HO.out _) hgrow (Nat.le_refl _)
              obtain ⟨a3, c3, rfl⟩ := own_any own3
              have O3 := Lib.hid own3
              clear own3 hgrow HK
              go_wp2
              go_roundw
              case rel => exact ⟨k + 1, by omega, by go_num, by rw [← Nat.add_assoc, HM.out, seenL_succ]; exact O3.out, X3⟩
              case measure => simp [intOf]; omega
            · obtain rfl : k = 4 := by omega
              go_wp2
              go_roundw
              case rel => exact ⟨h + 1, by omega, by go_num, by rw [show 4 * (h + 1 + 1) = 4 * (h + 1) + 4 by omega]; exact HO.out, hx3⟩
              case measure => simp [intOf]; omega
        · obtain rfl : h = 3 := by omega
          replace X := X.trans hx2
          replace P := P.ext hx2
          replace Q := Q.ext hx2
          replace TO := TO.ext hx2
          skip
          go_wp2_with fail
          refine (spec_DrawStampOk _ bs _ (HC.out.ext (Nat.le_refl _) X X.size) hl).mono ?_
          rintro e w8 ⟨rt2, h2, ep2, r2, p2, U, f1, f2, f3, g1, g2, g3, rfl, huf, ur, x8⟩
          replace X := X.trans x8
          replace P := P.ext x8
          replace Q := Q.ext x8
          replace TO := TO.ext x8
          have HUF := Lib.hid huf
          clear huf
          have e8 : Ext w8 ((w8.alloc (Obj.cells #[.int .i64 h2, .int .i64 ep2, .string r2, .string p2] 32)).alloc (Obj.cells #[.int .i64 U.at_, .slice f1 U.op.length g1, .slice f2 U.sh.length g2, .slice f3 U.si.length g3] 28)) := ((Ext.refl w8).alloc _).alloc _
          have V : Bx ((w8.alloc (Obj.cells #[.int .i64 h2, .int .i64 ep2, .string r2, .string p2] 32)).alloc (Obj.cells #[.int .i64 U.at_, .slice f1 U.op.length g1, .slice f2 U.sh.length g2, .slice f3 U.si.length g3] 28)) w8.heap.size [.int .i64 h2, .int .i64 ep2, .string r2, .string p2] := (Bx.new w8 _ _).ext ((Ext.refl _).alloc _)
          have O : Bx ((w8.alloc (Obj.cells #[.int .i64 h2, .int .i64 ep2, .string r2, .string p2] 32)).alloc (Obj.cells #[.int .i64 U.at_, .slice f1 U.op.length g1, .slice f2 U.sh.length g2, .slice f3 U.si.length g3] 28)) (w8.heap.size + 1) [.int .i64 U.at_, .slice f1 U.op.length g1, .slice f2 U.sh.length g2, .slice f3 U.si.length g3] := by have e := Bx.new (w8.alloc (Obj.cells #[.int .i64 h2, .int .i64 ep2, .string r2, .string p2] 32)) #[.int .i64 U.at_, .slice f1 U.op.length g1, .slice f2 U.sh.length g2, .slice f3 U.si.length g3] 28; rw [World.size_alloc] at e; exact e
          have UR := ur.ext e8
          clear ur
          replace X := X.trans e8
          replace P := P.ext e8
          replace Q := Q.ext e8
          replace TO := TO.ext e8
          go_wp2_with fail
          generalize (w8.alloc (Obj.cells #[.int .i64 h2, .int .i64 ep2, .string r2, .string p2] 32)).alloc (Obj.cells #[.int .i64 U.at_, .slice f1 U.op.length g1, .slice f2 U.sh.length g2, .slice f3 U.si.length g3] 28) = w9 at *
          generalize w8.heap.size = E at *
          clear e8
          refine wp_region_held_drew (S := (fun W => W.cell? ⟨B, 0, none⟩ = some (.int .i64 hh) ∧ W.cell? ⟨B, 1, none⟩ = some (.int .i64 ep) ∧ W.cell? ⟨B, 2, none⟩ = some (.string r) ∧ W.cell? ⟨B, 3, none⟩ = some (.string p) ∧ W.cell? ⟨D, 0, none⟩ = some (.int .i64 T.at_) ∧ W.cell? ⟨D, 1, none⟩ = some (.slice d1 T.op.length e1) ∧ W.cell? ⟨D, 2, none⟩ = some (.slice d2 T.sh.length e2) ∧ W.cell? ⟨D, 3, none⟩ = some (.slice d3 T.si.length e3) ∧ W.cell? ⟨E, 0, none⟩ = some (.int .i64 h2) ∧ W.cell? ⟨E, 1, none⟩ = some (.int .i64 ep2) ∧ W.cell? ⟨E, 2, none⟩ = some (.string r2) ∧ W.cell? ⟨E, 3, none⟩ = some (.string p2) ∧ W.cell? ⟨(E + 1), 0, none⟩ = some (.int .i64 U.at_) ∧ W.cell? ⟨(E + 1), 1, none⟩ = some (.slice f1 U.op.length g1) ∧ W.cell? ⟨(E + 1), 2, none⟩ = some (.slice f2 U.sh.length g2) ∧ W.cell? ⟨(E + 1), 3, none⟩ = some (.slice f3 U.si.length g3))) (by kernel_rfl) (by exact ⟨P.2.1 0 _ rfl, P.2.1 1 _ rfl, P.2.1 2 _ rfl, P.2.1 3 _ rfl, Q.2.1 0 _ rfl, Q.2.1 1 _ rfl, Q.2.1 2 _ rfl, Q.2.1 3 _ rfl, V.2.1 0 _ rfl, V.2.1 1 _ rfl, V.2.1 2 _ rfl, V.2.1 3 _ rfl, O.2.1 0 _ rfl, O.2.1 1 _ rfl, O.2.1 2 _ rfl, O.2.1 3 _ rfl⟩) (fun hHeld => ?_)
          have xd : Ext w9 w9.drew := (Ext.refl w9).drew
          replace X := X.trans xd
          replace P := P.ext xd
          replace Q := Q.ext xd
          replace TO := TO.ext xd
          replace V := V.ext xd
          replace O := O.ext xd
          replace UR := UR.ext xd
          generalize w9.drew = v0 at *
          (refine wpAnyH_take (i := 0) (v := ?_) rfl (by kernel_rfl) (by kernel_rfl) (by kernel_rfl) (fun _ _ _ h => h) (Or.inl ⟨by rfl, ?_⟩) (by assumption) ?_; rotate_left; focus (intro w hSw; (try dsimp only at hSw); (try simp only [zk1, zk2]); go_simp; try with_reducible rfl)); (try simp only [zk1, zk2]); (try simp only [Act.put, zk4, zk5, zk6])
          (refine wpAnyH_take (i := 1) (v := ?_) rfl (by kernel_rfl) (by kernel_rfl) (by kernel_rfl) (fun _ _ _ h => h) (Or.inl ⟨by rfl, ?_⟩) (by assumption) ?_; rotate_left; focus (intro w hSw; (try dsimp only at hSw); (try simp only [zk1, zk2, zk3]); go_simp; try with_reducible rfl)); (try simp only [zk1, zk2, zk3]); (try simp only [Act.put, zk4, zk5, zk6])
          (refine wpAnyH_take (i := 2) (v := ?_) rfl (by kernel_rfl) (by kernel_rfl) (by kernel_rfl) (fun _ _ _ h => h) (Or.inl ⟨by rfl, ?_⟩) (by assumption) ?_; rotate_left; focus (intro w hSw; (try dsimp only at hSw); (try simp only [zk1, zk2, zk3]); go_simp; try with_reducible rfl)); (try simp only [zk1, zk2, zk3]); (try simp only [Act.put, zk4, zk5, zk6])
          (refine wpAnyH_take (i := 3) (v := ?_) rfl (by kernel_rfl) (by kernel_rfl) (by kernel_rfl) (fun _ _ _ h => h) (Or.inl ⟨by rfl, ?_⟩) (by assumption) ?_; rotate_left; focus (intro w hSw; (try dsimp only at hSw); (try simp only [zk1, zk2, zk3]); go_simp; try with_reducible rfl)); (try simp only [zk1, zk2, zk3]); (try simp only [Act.put, zk4, zk5, zk6])
          (refine wpAnyH_take (i := 4) (v := ?_) rfl (by kernel_rfl) (by kernel_rfl) (by kernel_rfl) (fun _ _ _ h => h) (Or.inl ⟨by rfl, ?_⟩) (by assumption) ?_; rotate_left; focus (intro w hSw; (try dsimp only at hSw); (try simp only [zk1, zk2, zk3]); go_simp; try with_reducible rfl)); (try simp only [zk1, zk2, zk3]); (try simp only [Act.put, zk4, zk5, zk6])
          (refine wpAnyH_take (i := 5) (v := ?_) rfl (by kernel_rfl) (by kernel_rfl) (by kernel_rfl) (fun _ _ _ h => h) (Or.inl ⟨by rfl, ?_⟩) (by assumption) ?_; rotate_left; focus (intro w hSw; (try dsimp only at hSw); (try simp only [zk1, zk2, zk3]); go_simp; try with_reducible rfl)); (try simp only [zk1, zk2, zk3]); (try simp only [Act.put, zk4, zk5, zk6])
          (refine wpAnyH_ready (rs := [6]) (by kernel_rfl) (by simp) ?_; refine AllReadyH.cons rfl (fun K hK => ?_) AllReadyH.nil; (try simp only [zk1, zk2, zk3]))
          go_simp
          go_at_call 59
          refine (impl_StampOk rt hh ep r p _ _ _ T _ TO.1.1 TO.2.1.1 TO.2.2.1 HTF.out (HT.out.ext X)).mono ?_
          rw [hk2.out]
          rintro e v1 ⟨rfl, xa⟩
          replace X := X.trans xa
          replace P := P.ext xa
          replace Q := Q.ext xa
          replace TO := TO.ext xa
          replace V := V.ext xa
          replace O := O.ext xa
          replace UR := UR.ext xa
          (try dsimp only)
          refine hK.out _ _ (by exact ⟨P.2.1 0 _ rfl, P.2.1 1 _ rfl, P.2.1 2 _ rfl, P.2.1 3 _ rfl, Q.2.1 0 _ rfl, Q.2.1 1 _ rfl, Q.2.1 2 _ rfl, Q.2.1 3 _ rfl, V.2.1 0 _ rfl, V.2.1 1 _ rfl, V.2.1 2 _ rfl, V.2.1 3 _ rfl, O.2.1 0 _ rfl, O.2.1 1 _ rfl, O.2.1 2 _ rfl, O.2.1 3 _ rfl⟩) (fun hHeld => ?_)
          clear hK K
          (refine wpAnyH_take (i := 7) (v := ?_) rfl (by kernel_rfl) (by kernel_rfl) (by kernel_rfl) (fun _ _ _ h => h) (Or.inl ⟨by rfl, ?_⟩) (by assumption) ?_; rotate_left; focus (intro w hSw; (try dsimp only at hSw); (try simp only [zk1, zk2, zk3]); go_simp; try with_reducible rfl)); (try simp only [zk1, zk2, zk3]); (try simp only [Act.put, zk4, zk5, zk6])
          (refine wpAnyH_take (i := 8) (v := ?_) rfl (by kernel_rfl) (by kernel_rfl) (by kernel_rfl) (fun _ _ _ h => h) (Or.inl ⟨by rfl, ?_⟩) (by assumption) ?_; rotate_left; focus (intro w hSw; (try dsimp only at hSw); (try simp only [zk1, zk2, zk3]); go_simp; try with_reducible rfl)); (try simp only [zk1, zk2, zk3]); (try simp only [Act.put, zk4, zk5, zk6])
          (refine wpAnyH_take (i := 9) (v := ?_) rfl (by kernel_rfl) (by kernel_rfl) (by kernel_rfl) (fun _ _ _ h => h) (Or.inl ⟨by rfl, ?_⟩) (by assumption) ?_; rotate_left; focus (intro w hSw; (try dsimp only at hSw); (try simp only [zk1, zk2, zk3]); go_simp; try with_reducible rfl)); (try simp only [zk1, zk2, zk3]); (try simp only [Act.put, zk4, zk5, zk6])
          (refine wpAnyH_take (i := 10) (v := ?_) rfl (by kernel_rfl) (by kernel_rfl) (by kernel_rfl) (fun _ _ _ h => h) (Or.inl ⟨by rfl, ?_⟩) (by assumption) ?_; rotate_left; focus (intro w hSw; (try dsimp only at hSw); (try simp only [zk1, zk2, zk3]); go_simp; try with_reducible rfl)); (try simp only [zk1, zk2, zk3]); (try simp only [Act.put, zk4, zk5, zk6])
          (refine wpAnyH_take (i := 11) (v := ?_) rfl (by kernel_rfl) (by kernel_rfl) (by kernel_rfl) (fun _ _ _ h => h) (Or.inl ⟨by rfl, ?_⟩) (by assumption) ?_; rotate_left; focus (intro w hSw; (try dsimp only at hSw); (try simp only [zk1, zk2, zk3]); go_simp; try with_reducible rfl)); (try simp only [zk1, zk2, zk3]); (try simp only [Act.put, zk4, zk5, zk6])
          (refine wpAnyH_take (i := 13) (v := ?_) rfl (by kernel_rfl) (by kernel_rfl) (by kernel_rfl) (fun _ _ _ h => h) (Or.inl ⟨by rfl, ?_⟩) (by assumption) ?_; rotate_left; focus (intro w hSw; (try dsimp only at hSw); (try simp only [zk1, zk2, zk3]); go_simp; try with_reducible rfl)); (try simp only [zk1, zk2, zk3]); (try simp only [Act.put, zk4, zk5, zk6])
          (refine wpAnyH_take (i := 14) (v := ?_) rfl (by kernel_rfl) (by kernel_rfl) (by kernel_rfl) (fun _ _ _ h => h) (Or.inl ⟨by rfl, ?_⟩) (by assumption) ?_; rotate_left; focus (intro w hSw; (try dsimp only at hSw); (try simp only [zk1, zk2, zk3]); go_simp; try with_reducible rfl)); (try simp only [zk1, zk2, zk3]); (try simp only [Act.put, zk4, zk5, zk6])
          (refine wpAnyH_take (i := 15) (v := ?_) rfl (by kernel_rfl) (by kernel_rfl) (by kernel_rfl) (fun _ _ _ h => h) (Or.inl ⟨by rfl, ?_⟩) (by assumption) ?_; rotate_left; focus (intro w hSw; (try dsimp only at hSw); (try simp only [zk1, zk2, zk3]); go_simp; try with_reducible rfl)); (try simp only [zk1, zk2, zk3]); (try simp only [Act.put, zk4, zk5, zk6])
          (refine wpAnyH_ready (rs := [12]) (by kernel_rfl) (by simp) ?_; refine AllReadyH.cons rfl (fun K hK => ?_) AllReadyH.nil; (try simp only [zk1, zk2, zk3]))
          go_simp
          go_at_call 59
          refine (impl_StampOk rt2 h2 ep2 r2 p2 _ _ _ U _ UR.1.1 UR.2.1.1 UR.2.2.1 HUF.out (HT.out.ext X)).mono ?_
          rintro e v2 ⟨rfl, xb⟩
          replace X := X.trans xb
          replace P := P.ext xb
          replace Q := Q.ext xb
          replace TO := TO.ext xb
          replace V := V.ext xb
          replace O := O.ext xb
          replace UR := UR.ext xb
          (try dsimp only)
          refine hK.out _ _ (by exact ⟨P.2.1 0 _ rfl, P.2.1 1 _ rfl, P.2.1 2 _ rfl, P.2.1 3 _ rfl, Q.2.1 0 _ rfl, Q.2.1 1 _ rfl, Q.2.1 2 _ rfl, Q.2.1 3 _ rfl, V.2.1 0 _ rfl, V.2.1 1 _ rfl, V.2.1 2 _ rfl, V.2.1 3 _ rfl, O.2.1 0 _ rfl, O.2.1 1 _ rfl, O.2.1 2 _ rfl, O.2.1 3 _ rfl⟩) (fun hHeld => ?_)
          clear hK K
          (refine wpAnyH_ready (rs := [16]) (by kernel_rfl) (by simp) ?_; refine AllReadyH.cons rfl (fun K hK => ?_) AllReadyH.nil; (try simp only [zk1, zk2, zk3]))
          go_simp
          go_at_call 60
          refine (spec_StampOk rt2 h2 ep2 r2 p2 _ _ _ U _ UR.1.1 UR.2.1.1 UR.2.2.1 HUF.out).mono ?_
          generalize stampOkB rt2 h2 ep2 r2 p2 U = kk at *
          rintro e v3 ⟨rfl, xc⟩
          replace X := X.trans xc
          replace P := P.ext xc
          replace Q := Q.ext xc
          replace TO := TO.ext xc
          replace V := V.ext xc
          replace O := O.ext xc
          replace UR := UR.ext xc
          (try dsimp only)
          refine hK.out _ _ (by exact ⟨P.2.1 0 _ rfl, P.2.1 1 _ rfl, P.2.1 2 _ rfl, P.2.1 3 _ rfl, Q.2.1 0 _ rfl, Q.2.1 1 _ rfl, Q.2.1 2 _ rfl, Q.2.1 3 _ rfl, V.2.1 0 _ rfl, V.2.1 1 _ rfl, V.2.1 2 _ rfl, V.2.1 3 _ rfl, O.2.1 0 _ rfl, O.2.1 1 _ rfl, O.2.1 2 _ rfl, O.2.1 3 _ rfl⟩) (fun hHeld => ?_)
          clear hK K
          cases kk
          · (refine wpAnyH_take (i := 17) (v := ?_) rfl (by kernel_rfl) (by kernel_rfl) (by kernel_rfl) (fun _ _ _ h => h) (Or.inl ⟨by rfl, ?_⟩) (by assumption) ?_; rotate_left; focus (intro w hSw; (try dsimp only at hSw); (try simp only [zk1, zk2, zk3]); go_simp; try with_reducible rfl)); (try simp only [zk1, zk2, zk3]); (try simp only [Act.put, zk4, zk5, zk6])
            (refine wpAnyH_take (i := 18) (v := ?_) rfl (by kernel_rfl) (by kernel_rfl) (by kernel_rfl) (fun _ _ _ h => h) (Or.inl ⟨by rfl, ?_⟩) (by assumption) ?_; rotate_left; focus (intro w hSw; (try dsimp only at hSw); (try simp only [zk1, zk2, zk3]); go_simp; try with_reducible rfl)); (try simp only [zk1, zk2, zk3]); (try simp only [Act.put, zk4, zk5, zk6])
            (refine wpAnyH_take (i := 19) (v := ?_) rfl (by kernel_rfl) (by kernel_rfl) (by kernel_rfl) (fun _ _ _ h => h) (Or.inl ⟨by rfl, ?_⟩) (by assumption) ?_; rotate_left; focus (intro w hSw; (try dsimp only at hSw); (try simp only [zk1, zk2, zk3]); go_simp; try with_reducible rfl)); (try simp only [zk1, zk2, zk3]); (try simp only [Act.put, zk4, zk5, zk6])
            (refine wpAnyH_take (i := 20) (v := ?_) rfl (by kernel_rfl) (by kernel_rfl) (by kernel_rfl) (fun _ _ _ h => h) (Or.inl ⟨by rfl, ?_⟩) (by assumption) ?_; rotate_left; focus (intro w hSw; (try dsimp only at hSw); (try simp only [zk1, zk2, zk3]); go_simp; try with_reducible rfl)); (try simp only [zk1, zk2, zk3]); (try simp only [Act.put, zk4, zk5, zk6])
            (refine wpAnyH_take (i := 21) (v := ?_) rfl (by kernel_rfl) (by kernel_rfl) (by kernel_rfl) (fun _ _ _ h => h) (Or.inl ⟨by rfl, ?_⟩) (by assumption) ?_; rotate_left; focus (intro w hSw; (try dsimp only at hSw); (try simp only [zk1, zk2, zk3]); go_simp; try with_reducible rfl)); (try simp only [zk1, zk2, zk3]); (try simp only [Act.put, zk4, zk5, zk6])
            (refine wpAnyH_take (i := 22) (v := ?_) rfl (by kernel_rfl) (by kernel_rfl) (by kernel_rfl) (fun _ _ _ h => h) (Or.inl ⟨by rfl, ?_⟩) (by assumption) ?_; rotate_left; focus (intro w hSw; (try dsimp only at hSw); (try simp only [zk1, zk2, zk3]); go_simp; try with_reducible rfl)); (try simp only [zk1, zk2, zk3]); (try simp only [Act.put, zk4, zk5, zk6])
            (refine wpAnyH_take (i := 23) (v := ?_) rfl (by kernel_rfl) (by kernel_rfl) (by kernel_rfl) (fun _ _ _ h => h) (Or.inl ⟨by rfl, ?_⟩) (by assumption) ?_; rotate_left; focus (intro w hSw; (try dsimp only at hSw); (try simp only [zk1, zk2, zk3]); go_simp; try with_reducible rfl)); (try simp only [zk1, zk2, zk3]); (try simp only [Act.put, zk4, zk5, zk6])
            (refine wpAnyH_take (i := 24) (v := ?_) rfl (by kernel_rfl) (by kernel_rfl) (by kernel_rfl) (fun _ _ _ h => h) (Or.inl ⟨by rfl, ?_⟩) (by assumption) ?_; rotate_left; focus (intro w hSw; (try dsimp only at hSw); (try simp only [zk1, zk2, zk3]); go_simp; try with_reducible rfl)); (try simp only [zk1, zk2, zk3]); (try simp only [Act.put, zk4, zk5, zk6])
            refine wpAnyH_done (by kernel_rfl) ?_ _
            go_wp2
            go_ret
            exact ⟨rfl, X⟩
          · (refine wpAnyH_take (i := 17) (v := ?_) rfl (by kernel_rfl) (by kernel_rfl) (by kernel_rfl) (fun _ _ _ h => h) (Or.inl ⟨by rfl, ?_⟩) (by assumption) ?_; rotate_left; focus (intro w hSw; (try dsimp only at hSw); (try simp only [zk1, zk2, zk3]); go_simp; try with_reducible rfl)); (try simp only [zk1, zk2, zk3]); (try simp only [Act.put, zk4, zk5, zk6])
            (refine wpAnyH_take (i := 18) (v := ?_) rfl (by kernel_rfl) (by kernel_rfl) (by kernel_rfl) (fun _ _ _ h => h) (Or.inl ⟨by rfl, ?_⟩) (by assumption) ?_; rotate_left; focus (intro w hSw; (try dsimp only at hSw); (try simp only [zk1, zk2, zk3]); go_simp; try with_reducible rfl)); (try simp only [zk1, zk2, zk3]); (try simp only [Act.put, zk4, zk5, zk6])
            (refine wpAnyH_take (i := 19) (v := ?_) rfl (by kernel_rfl) (by kernel_rfl) (by kernel_rfl) (fun _ _ _ h => h) (Or.inl ⟨by rfl, ?_⟩) (by assumption) ?_; rotate_left; focus (intro w hSw; (try dsimp only at hSw); (try simp only [zk1, zk2, zk3]); go_simp; try with_reducible rfl)); (try simp only [zk1, zk2, zk3]); (try simp only [Act.put, zk4, zk5, zk6])
            (refine wpAnyH_take (i := 20) (v := ?_) rfl (by kernel_rfl) (by kernel_rfl) (by kernel_rfl) (fun _ _ _ h => h) (Or.inl ⟨by rfl, ?_⟩) (by assumption) ?_; rotate_left; focus (intro w hSw; (try dsimp only at hSw); (try simp only [zk1, zk2, zk3]); go_simp; try with_reducible rfl)); (try simp only [zk1, zk2, zk3]); (try simp only [Act.put, zk4, zk5, zk6])
            (refine wpAnyH_take (i := 21) (v := ?_) rfl (by kernel_rfl) (by kernel_rfl) (by kernel_rfl) (fun _ _ _ h => h) (Or.inl ⟨by rfl, ?_⟩) (by assumption) ?_; rotate_left; focus (intro w hSw; (try dsimp only at hSw); (try simp only [zk1, zk2, zk3]); go_simp; try with_reducible rfl)); (try simp only [zk1, zk2, zk3]); (try simp only [Act.put, zk4, zk5, zk6])
            (refine wpAnyH_take (i := 22) (v := ?_) rfl (by kernel_rfl) (by kernel_rfl) (by kernel_rfl) (fun _ _ _ h => h) (Or.inl ⟨by rfl, ?_⟩) (by assumption) ?_; rotate_left; focus (intro w hSw; (try dsimp only at hSw); (try simp only [zk1, zk2, zk3]); go_simp; try with_reducible rfl)); (try simp only [zk1, zk2, zk3]); (try simp only [Act.put, zk4, zk5, zk6])
            (refine wpAnyH_take (i := 23) (v := ?_) rfl (by kernel_rfl) (by kernel_rfl) (by kernel_rfl) (fun _ _ _ h => h) (Or.inl ⟨by rfl, ?_⟩) (by assumption) ?_; rotate_left; focus (intro w hSw; (try dsimp only at hSw); (try simp only [zk1, zk2, zk3]); go_simp; try with_reducible rfl)); (try simp only [zk1, zk2, zk3]); (try simp only [Act.put, zk4, zk5, zk6])
            (refine wpAnyH_take (i := 24) (v := ?_) rfl (by kernel_rfl) (by kernel_rfl) (by kernel_rfl) (fun _ _ _ h => h) (Or.inl ⟨by rfl, ?_⟩) (by assumption) ?_; rotate_left; focus (intro w hSw; (try dsimp only at hSw); (try simp only [zk1, zk2, zk3]); go_simp; try with_reducible rfl)); (try simp only [zk1, zk2, zk3]); (try simp only [Act.put, zk4, zk5, zk6])
            refine wpAnyH_done (by kernel_rfl) ?_ _
            go_wp2
            go_ret
            exact ⟨rfl, X⟩
end Go.Proofs.YtliebkhfddmhjaaDoor
namespace Go.Proofs.YtliebkhfddmhjaaDoor
open Go.ChangeShapes Go.WideShapes Go.ChangeAt Go.RowKit
open Go.ChangeMaps (open_string shut_string)
namespace FnStamps
theorem own : ownKnob Tryd.prog.godebug = none := by kernel_rfl
theorem laidOut : laidOutB Tryd.prog = true := by kernel_rfl
theorem laid_met (os : Os) : laidMet Tryd.prog Rows.fnStampsRow.laid ((laidWorld os).forCall (fun _ _ => 0) ⟨#[], #[.slice none 0 0], []⟩).memory :=
  laidMet_of_run' 8 (by kernel_rfl) (by kernel_rfl)
theorem reads (os : Os) {H : Type} (enc : TypeId × Value → H) : ∃ x, DataW.whole enc Tryd.prog ((laidWorld os).forCall (fun _ _ => 0) ⟨#[], #[.slice none 0 0], []⟩).memory Tryd.f8.params.toList Rows.fnStampsSpec.vars false (#[.slice none 0 0] : Array Value).toList 8 = some x :=
  Option.isSome_iff_exists.1 (by kernel_rfl)
set_option maxRecDepth 100000 in
theorem lifted (os : Os) (started : os.Started) (H : Type) (enc : TypeId × Value → H) (I : Stop.Interp) :
    ReturnsInHanded {} Tryd.checked os 8 .any ((OpenSpec.ofChange Rows.fnStampsSpec).preRow enc Tryd.prog Tryd.f8 Rows.fnStampsRow.domain false Rows.fnStampsRow.laid) (((OpenSpec.ofChange Rows.fnStampsSpec).at I).post enc Tryd.prog Tryd.f8 false true false false) := by
  obtain ⟨x, hx⟩ := reads os enc
  refine returnsInHanded_of_row (C := Tryd.checked) (s := OpenSpec.ofChange Rows.fnStampsSpec) own started (by kernel_rfl) Tryd.func8
    (witness_row_at (enc := enc) (C := Tryd.checked) false (laidWorld os) #[.slice none 0 0] rfl (by kernel_rfl) (by kernel_rfl) (by kernel_rfl)
      (OpenSpec.preRow_of_cond 8 hx rfl (fun k hk => by cases hk) (by kernel_rfl) (laid_met os))) ?_
  intro W base args ds gs before hval0 hW _ _ _ hL _ _
  have hval : ∀ (j : Nat) t v, Tryd.f8.params[j]? = some t → args[j]? = some v → Value.okWide Tryd.prog W .any base t v := hval0
  have hW' := hW
  obtain ⟨p, q, hA0, hV, rfl, -, -⟩ := hW
  have hA : DataW.TrodAll enc Tryd.prog W 0 (fun _ => true) true Tryd.f8.params.toList args.toList ds p := hA0
  rw [Tryd.params8] at hA hval
  obtain ⟨v0, vs0, d0, ds0, p0, q0, hargs, rfl, rfl, h0, t0⟩ := trodAll_cons hA
  obtain ⟨rfl, rfl, rfl⟩ := trodAll_nil t0
  obtain rfl : args = #[v0] := by cases args; simp_all
  obtain ⟨g1, g2, rfl⟩ := trodVars_two hV
  obtain ⟨a0, len0, cap0, rfl⟩ := okWide_slice Tryd.underlying44 (hval 0 44 v0 rfl rfl)
  obtain ⟨xs0, hx0⟩ := rd_bytes (rd_arg (T := .sl (.int .u8)) (by kernel_rfl) h0)
  clear hA0 hval0
  refine (laws_FnStamps _ xs0 W hx0 (tabs_of hL)).mono fun e W2 ⟨he, hx⟩ => ?_
  subst he
  exact ⟨_, rfl, post_lawV hW' rfl (by kernel_rfl) (by kernel_rfl) Tryd.underlying4 laidOut (by kernel_rfl) hx⟩
theorem said : Rows.FnStampsSaid :=
  OpenClaim.holds_of_cond 8 Tryd.f8 rfl rfl rfl rfl rfl rfl rfl ⟨rfl, rfl, rfl, rfl, rfl⟩ rfl rfl rfl rfl rfl (by kernel_rfl) Tryd.func8 (by kernel_rfl)
    (of_decide_eq_true (by kernel_rfl)) (by unfold Func.isWrapper; first | (rw [if_pos (by decide +kernel)]; kernel_rfl) | (rw [if_neg (by decide +kernel)]; exact ⟨rfl, rfl⟩))
    (fun os started H enc _ I => by rw [OpenClaim.pre_eq_preRow]; exact lifted os started H enc I)
theorem plain (f : FuncId) (fn : Func) (hf : Tryd.pinned.checked.prog.funcNamed "loop.example/g00284/laws.FnStamps" = some f) (hfn : Tryd.pinned.checked.prog.funcs[f]? = some fn) :
    false = Tryd.pinned.checked.prog.looks [] ∧ ∀ (j : Nat) t, fn.params[j]? = some t → Tryd.pinned.checked.prog.wantsStandIn t = false := by
  obtain rfl : f = 8 := Option.some.inj ((show Tryd.prog.funcNamed "loop.example/g00284/laws.FnStamps" = some 8 by kernel_rfl).symm.trans hf) |>.symm
  obtain rfl : fn = Tryd.f8 := (Option.some.inj (Tryd.func8.symm.trans hfn)).symm
  refine ⟨by kernel_rfl, fun j t ht => ?_⟩
  have hall : (Tryd.f8.params.toList.all fun u => !Tryd.prog.wantsStandIn u) = true := by kernel_rfl
  have hm : t ∈ Tryd.f8.params.toList := by simpa using Array.mem_of_getElem? ht
  exact (show Tryd.prog.wantsStandIn t = false by simpa using List.all_eq_true.1 hall t hm)
theorem proved : Rows.FnStampsCardSaid :=
  Claim7.holds_tied_plain_at .later [] _ _ _ _ said (fun _ h => by cases h) (by kernel_rfl) (fun _ h => by cases h) fnStamps_row_tie rfl ⟨rfl, rfl⟩ (by kernel_rfl) rfl plain (by kernel_rfl)
#print axioms proved
end FnStamps
end Go.Proofs.YtliebkhfddmhjaaDoor
