/- SmB, Dso, LSn, LSgnsT in one text. -/
import Derived.Test.YtliebkhfddmhjaaDoorSm
import Derived.Test.YtliebkhfddmhjaaDoorAny5
import Derived.Test.YtliebkhfddmhjaaDoorSpoil
import Derived.Test.YtliebkhfddmhjaaDoorDSdA
import Derived.Test.YtliebkhfddmhjaaDoorLkX
import Derived.Test.YtliebkhfddmhjaaDoorRdA
import Derived.Test.YtliebkhfddmhjaaDoorLck
import Derived.Test.YtliebkhfddmhjaaDoorCurA
import Derived.Test.YtliebkhfddmhjaaDoorLftA
import Derived.Deep.DeepCutAuto
import Derived.Test.YtliebkhfddmhjaaDoorArgsB
import Derived.Test.YtliebkhfddmhjaaDoorTie
import Derived.Test.YtliebkhfddmhjaaDoorCards
namespace Go.Proofs.YtliebkhfddmhjaaDoor
open Go.RowKit

def sgEq (s t : SigV) : Bool := decide (s.at_ = t.at_) && (decide (s.op = t.op) && (decide (s.sh = t.sh) && decide (s.si = t.si)))
theorem sgEq_no {s t : SigV} (h : s ≠ t) : sgEq s t = false := by
  rw [sgEq]
  by_cases h0 : s.at_ = t.at_ <;> by_cases h1 : s.op = t.op <;> by_cases h2 : s.sh = t.sh <;> by_cases h3 : s.si = t.si <;> simp [h0, h1, h2, h3]
  apply h
  cases s
  cases t
  simp_all
set_option maxRecDepth 100000 in
set_option maxHeartbeats 3200000 in
theorem laws_sameSigB (v1 v2 v3 u1 u2 u3 : Value) (s t : SigV) (w : World) (h1 : Strs w v1 s.op) (h2 : Strs w v2 s.sh) (h3 : Strs w v3 s.si) (g1 : Strs w u1 t.op) (g2 : Strs w u2 t.sh) (g3 : Strs w u3 t.si) :
    Calls Tryd.prog 38 #[.agg #[.int .i64 s.at_, v1, v2, v3], .agg #[.int .i64 t.at_, u1, u2, u3]] w fun e w' => e = .returned (.bool (sgEq s t)) ∧ Ext w w' := by
  obtain ⟨a1, c1, rfl⟩ := h1.form
  obtain ⟨a2, c2, rfl⟩ := h2.form
  obtain ⟨a3, c3, rfl⟩ := h3.form
  obtain ⟨b1, d1, rfl⟩ := g1.form
  obtain ⟨b2, d2, rfl⟩ := g2.form
  obtain ⟨b3, d3, rfl⟩ := g3.form
  have HEQ := Lib.hid (show sgEq s t = (decide (s.at_ = t.at_) && (decide (s.op = t.op) && (decide (s.sh = t.sh) && decide (s.si = t.si)))) from rfl)
  generalize sgEq s t = r at *
  obtain ⟨z0, hz0⟩ : ∃ z, decide (s.at_ = t.at_) = z := ⟨_, rfl⟩
  have Z0 := Lib.hid hz0
  have P : Bx ((w.alloc (Obj.cells #[.int .i64 s.at_, .slice a1 s.op.length c1, .slice a2 s.sh.length c2, .slice a3 s.si.length c3] 28)).alloc (Obj.cells #[.int .i64 t.at_, .slice b1 t.op.length d1, .slice b2 t.sh.length d2, .slice b3 t.si.length d3] 28)) w.heap.size [.int .i64 s.at_, .slice a1 s.op.length c1, .slice a2 s.sh.length c2, .slice a3 s.si.length c3] := (Bx.new w _ _).ext ((Ext.refl _).alloc _)
  have Q : Bx ((w.alloc (Obj.cells #[.int .i64 s.at_, .slice a1 s.op.length c1, .slice a2 s.sh.length c2, .slice a3 s.si.length c3] 28)).alloc (Obj.cells #[.int .i64 t.at_, .slice b1 t.op.length d1, .slice b2 t.sh.length d2, .slice b3 t.si.length d3] 28)) (w.heap.size + 1) [.int .i64 t.at_, .slice b1 t.op.length d1, .slice b2 t.sh.length d2, .slice b3 t.si.length d3] := by
    have e := Bx.new (w.alloc (Obj.cells #[.int .i64 s.at_, .slice a1 s.op.length c1, .slice a2 s.sh.length c2, .slice a3 s.si.length c3] 28)) #[.int .i64 t.at_, .slice b1 t.op.length d1, .slice b2 t.sh.length d2, .slice b3 t.si.length d3] 28
    rw [World.size_alloc] at e
    exact e
  have x0 : Ext w ((w.alloc (Obj.cells #[.int .i64 s.at_, .slice a1 s.op.length c1, .slice a2 s.sh.length c2, .slice a3 s.si.length c3] 28)).alloc (Obj.cells #[.int .i64 t.at_, .slice b1 t.op.length d1, .slice b2 t.sh.length d2, .slice b3 t.si.length d3] 28)) := ((Ext.refl w).alloc _).alloc _
  cases z0
  · clear hz0
    have hat : (s.at_ == t.at_) = false := by have := Z0.out; rw [decide_eq_false_iff_not] at this; exact beq_eq_false_iff_ne.2 this
    go_enter Tryd.func38, Tryd.ntmps38
    go_wp2
    go_ret
    have := HEQ.out
    rw [Z0.out] at this
    subst this
    exact ⟨rfl, x0⟩
  · clear hz0
    have hat : (s.at_ == t.at_) = true := by have := Z0.out; rw [decide_eq_true_eq] at this; rw [this]; simp
    go_enter Tryd.func38, Tryd.ntmps38
    go_wp2_with fail
    generalize (w.alloc (Obj.cells #[.int .i64 s.at_, .slice a1 s.op.length c1, .slice a2 s.sh.length c2, .slice a3 s.si.length c3] 28)).alloc (Obj.cells #[.int .i64 t.at_, .slice b1 t.op.length d1, .slice b2 t.sh.length d2, .slice b3 t.si.length d3] 28) = W0 at *
    refine (laws_sameTexts _ _ s.op t.op _ (h1.ext x0) (g1.ext x0)).mono ?_
    generalize hz1 : decide (s.op = t.op) = z1 at *
    have Z1 := Lib.hid hz1
    clear hz1
    rintro e w1 ⟨rfl, x1⟩
    replace P := P.ext x1
    replace Q := Q.ext x1
    have X1 := x0.trans x1
    have p0c := P.2.1 0 _ rfl
    have p1c := P.2.1 1 _ rfl
    have p2c := P.2.1 2 _ rfl
    have p3c := P.2.1 3 _ rfl
    have q0c := Q.2.1 0 _ rfl
    have q1c := Q.2.1 1 _ rfl
    have q2c := Q.2.1 2 _ rfl
    have q3c := Q.2.1 3 _ rfl
    cases z1
    · go_wp2
      go_ret
      have := HEQ.out
      rw [Z0.out] at this
      subst this
      exact ⟨rfl, X1⟩
    · go_wp2_with fail
      refine (laws_sameTexts _ _ s.sh t.sh _ (h2.ext X1) (g2.ext X1)).mono ?_
      generalize hz2 : decide (s.sh = t.sh) = z2 at *
      have Z2 := Lib.hid hz2
      clear hz2 p0c p1c p2c p3c q0c q1c q2c q3c
      rintro e w2 ⟨rfl, x2⟩
      replace P := P.ext x2
      replace Q := Q.ext x2
      have X2 := X1.trans x2
      have p0c := P.2.1 0 _ rfl
      have p1c := P.2.1 1 _ rfl
      have p2c := P.2.1 2 _ rfl
      have p3c := P.2.1 3 _ rfl
      have q0c := Q.2.1 0 _ rfl
      have q1c := Q.2.1 1 _ rfl
      have q2c := Q.2.1 2 _ rfl
      have q3c := Q.2.1 3 _ rfl
      cases z2
      · go_wp2
        go_ret
        have := HEQ.out
        rw [Z0.out] at this
        subst this
        exact ⟨rfl, X2⟩
      · go_wp2_with fail
        refine (laws_sameTexts _ _ s.si t.si _ (h3.ext X2) (g3.ext X2)).mono ?_
        generalize hz3 : decide (s.si = t.si) = z3 at *
        have Z3 := Lib.hid hz3
        clear hz3
        rintro e w3 ⟨rfl, x3⟩
        have X3 := X2.trans x3
        go_wp2
        go_ret
        have := HEQ.out
        rw [Z0.out] at this
        subst this
        exact ⟨by simp, X3⟩
end Go.Proofs.YtliebkhfddmhjaaDoor
namespace Go.Proofs.YtliebkhfddmhjaaDoor
open Go.RowKit

theorem sigTx_le (s : SigV) : (sigTx s).size ≤ 321 := by
  by_cases h : sigWell s = true
  · have h1 := (sig_back h).1
    rw [rdSig, Bool.and_eq_true, decide_eq_true_eq] at h1
    rw [show sigTx s = sigT s by simp [sigTx, h]]
    omega
  · rw [show sigTx s = ⟨#[]⟩ by simp [sigTx, h]]
    exact Nat.zero_le _
set_option maxRecDepth 100000 in
set_option maxHeartbeats 3200000 in
theorem spec_DrawSigOk (v : Value) (bs : List Int) (w : World) (h : Code w w.heap.size v bs) (hl : bs.length ≤ 1048576) :
    Calls Tryd.prog 40 #[v] w fun e w' => ∃ (root text : ByteArray) (S : SigV) (a1 a2 a3 : Option Addr) (c1 c2 c3 : Nat), e = .returned (.tuple #[.string root, .string text, .agg #[.int .i64 S.at_, .slice a1 S.op.length c1, .slice a2 S.sh.length c2, .slice a3 S.si.length c3]]) ∧ root.size = 16 ∧ text.size ≤ 201 ∧ SigFit S ∧ SigRd w' w.heap.size (.slice a1 S.op.length c1) (.slice a2 S.sh.length c2) (.slice a3 S.si.length c3) S ∧ Ext w w' := by
  have e0 : Ext w (w.alloc (Obj.cells #[.int .i64 0, .slice none 0 0, .slice none 0 0, .slice none 0 0] 28)) := (Ext.refl w).alloc _
  have R := Bx.new w #[.int .i64 0, .slice none 0 0, .slice none 0 0, .slice none 0 0] 28
  go_enter Tryd.func40, Tryd.ntmps40
  go_wp2_with fail
  generalize w.alloc (Obj.cells #[.int .i64 0, .slice none 0 0, .slice none 0 0, .slice none 0 0] 28) = W0 at *
  refine (spec_l01New v bs _ (h.ext (Nat.le_refl _) e0 e0.size) hl).mono ?_
  rintro e w1 ⟨rfl, C1, x1⟩
  have R1 := R.ext x1
  have X1 := e0.trans x1
  have l0 : w.heap.size < W0.heap.size := R.1
  clear R
  go_wp2_with fail
  refine (spec_l05Any _ _ C1).mono ?_
  rintro e w2 ⟨root, text, S, a1, a2, a3, c1, c2, c3, rfl, hr, ht, hok, so, C2, M2⟩
  have R := R1.mut M2 (by omega)
  have X := X1.mut M2 e0.size
  have SO := so.mono (show w.heap.size + 1 ≤ w1.heap.size by have := x1.size; omega)
  have HO := Lib.hid hok
  clear so hok R1 X1
  have z0 := R.2.1 0 _ rfl
  have z1 := R.2.1 1 _ rfl
  have z2 := R.2.1 2 _ rfl
  have z3 := R.2.1 3 _ rfl
  have f0 := R.2.2 0
  have f1 := R.2.2 1
  have f2 := R.2.2 2
  have f3 := R.2.2 3
  have XF : Ext w ((((w2.setCell ⟨w.heap.size, 0, none⟩ (.int .i64 S.at_)).setCell ⟨w.heap.size, 1, none⟩ (.slice a1 S.op.length c1)).setCell ⟨w.heap.size, 2, none⟩ (.slice a2 S.sh.length c2)).setCell ⟨w.heap.size, 3, none⟩ (.slice a3 S.si.length c3)) := ((((X.setCell (by dsimp only; omega) _).setCell (by dsimp only; omega) _).setCell (by dsimp only; omega) _).setCell (by dsimp only; omega) _)
  have RF := ((((R.set 0 (.int .i64 S.at_) (by simp)).set 1 (.slice a1 S.op.length c1) (by simp)).set 2 (.slice a2 S.sh.length c2) (by simp)).set 3 (.slice a3 S.si.length c3) (by simp))
  have SF := ((((SO.set (c := w.heap.size) (by omega) 0 (.int .i64 S.at_)).set (c := w.heap.size) (by omega) 1 (.slice a1 S.op.length c1)).set (c := w.heap.size) (by omega) 2 (.slice a2 S.sh.length c2)).set (c := w.heap.size) (by omega) 3 (.slice a3 S.si.length c3))
  go_wp2
  generalize (((w2.setCell ⟨w.heap.size, 0, none⟩ (.int .i64 S.at_)).setCell ⟨w.heap.size, 1, none⟩ (.slice a1 S.op.length c1)).setCell ⟨w.heap.size, 2, none⟩ (.slice a2 S.sh.length c2)).setCell ⟨w.heap.size, 3, none⟩ (.slice a3 S.si.length c3) = WF at *
  clear z0 f0 z1 f1 z2 f2 z3 f3
  have k0 := RF.2.1 0 _ rfl
  have k1 := RF.2.1 1 _ rfl
  have k2 := RF.2.1 2 _ rfl
  have k3 := RF.2.1 3 _ rfl
  refine bodyPost_ret (v := .tuple #[.string root, .string text, .agg #[.int .i64 S.at_, .slice a1 S.op.length c1, .slice a2 S.sh.length c2, .slice a3 S.si.length c3]]) (by simp [results, Tryd.results40, go_sem, k0, k1, k2, k3]) rfl ?_
  exact ⟨root, text, S, a1, a2, a3, c1, c2, c3, rfl, hr, ht, HO.out, SF.mono (by omega), XF⟩
set_option maxRecDepth 100000 in
set_option maxHeartbeats 3200000 in
theorem spec_DrawReadSig (v : Value) (bs : List Int) (w : World) (h : Code w w.heap.size v bs) (hl : bs.length ≤ 1048576) :
    Calls Tryd.prog 41 #[v] w fun e w' => ∃ s : ByteArray, e = .returned (.string s) ∧ s.size ≤ 322 ∧ Ext w w' := by
  go_enter Tryd.func41, Tryd.ntmps41
  go_wp2_with fail
  refine (spec_l01New v bs _ h hl).mono ?_
  rintro e w1 ⟨rfl, C1, x1⟩
  go_wp2_with fail
  refine (spec_l01Below _ 4 _ C1 (by omega)).mono ?_
  rintro e w2 ⟨k, rfl, hk, C2, M2⟩
  have X2 : Ext w w2 := x1.mut M2 (Nat.le_refl _)
  go_wp2_with fail
  refine (spec_l05Any _ _ C2).mono ?_
  rintro e w3 ⟨root, text, S, a1, a2, a3, c1, c2, c3, rfl, hr, ht, hok, so, C3, M3⟩
  have X3 := X2.mut M3 (Nat.le_refl _)
  have HO := Lib.hid hok
  clear hok hr ht
  have e3 : Ext w3 (w3.alloc (Obj.cells #[.int .i64 S.at_, .slice a1 S.op.length c1, .slice a2 S.sh.length c2, .slice a3 S.si.length c3] 28)) := (Ext.refl _).alloc _
  have Q := Bx.new w3 #[.int .i64 S.at_, .slice a1 S.op.length c1, .slice a2 S.sh.length c2, .slice a3 S.si.length c3] 28
  have so4 := so.ext e3
  have C4 := C3.ext e3
  have X4 := X3.trans e3
  have q0 := Q.2.1 0 _ rfl
  have q1 := Q.2.1 1 _ rfl
  have q2 := Q.2.1 2 _ rfl
  have q3 := Q.2.1 3 _ rfl
  clear so C3 X3 Q
  go_wp2_with fail
  generalize w3.alloc (Obj.cells #[.int .i64 S.at_, .slice a1 S.op.length c1, .slice a2 S.sh.length c2, .slice a3 S.si.length c3] 28) = w4 at *
  clear e3
  refine (spec_SigText _ _ _ S _ so4.1.1 so4.2.1.1 so4.2.2.1 HO.out).mono ?_
  have htz := sigTx_le S
  generalize sigTx S = t at *
  generalize sigWell S = ok at *
  rintro e w5 ⟨rfl, x5⟩
  have C5 := C4.ext x5
  have X5 := X4.trans x5
  clear q0 q1 q2 q3 C4 X4
  rcases (show k = 0 ∨ k = 1 ∨ 2 ≤ k by omega) with rfl | rfl | hk2
  · go_wp2
    go_ret
    exact ⟨_, rfl, by rw [ByteArray.size_append]; have : (⟨#[120]⟩ : ByteArray).size = 1 := rfl; omega, X5⟩
  · go_wp2_with fail
    refine (spec_l02Spoilt _ t _ C5 (by omega)).mono ?_
    rintro e w6 ⟨s, rfl, hs, C6, M6⟩
    go_wp2
    go_ret
    exact ⟨s, rfl, by omega, X5.mut M6 (Nat.le_refl _)⟩
  · have k0 : k ≠ 0 := by omega
    have k1 : k ≠ 1 := by omega
    go_wp2
    go_ret
    exact ⟨t, rfl, by omega, X5⟩
end Go.Proofs.YtliebkhfddmhjaaDoor
namespace Go.Proofs.YtliebkhfddmhjaaDoor
open Go.RowKit

set_option maxRecDepth 100000 in
set_option maxHeartbeats 12800000 in
theorem laws_FnSignsTurned (v : Value) (bs : List Int) (w : World) (h : Code w w.heap.size v bs) (hT : Tabs w) :
    Calls Tryd.prog 6 #[v] w fun e w' => e = .returned (.bool true) ∧ Ext w w' := by
  have HT := Lib.hid hT
  clear hT
  have HC := Lib.hid h
  obtain ⟨a0, cap, rfl, -, -⟩ := id h
  by_cases hb : (1048576 : Int) < bs.length
  · go_enter Tryd.func6, Tryd.ntmps6
    go_wp2_with (go_at_call 27; refine (laws_big _ _ bs _ HC.out).mono ?_; rintro e w' ⟨rfl, rfl⟩)
    go_ret
    exact ⟨rfl, (by repeat (first | (with_reducible first | exact Ext.refl _ | assumption | apply Ext.alloc | apply Ext.drew | apply Ext.drewN | refine Ext.setCell ?_ ?_ _ | refine Ext.trans ?_ (by assumption)) | (show _ ≤ _; first | omega | (dsimp only; omega) | (simp; done) | (simp; omega))))⟩
  have hl : bs.length ≤ 1048576 := by omega
  clear h
  go_enter Tryd.func6, Tryd.ntmps6
  go_wp2_with fail
  refine (laws_big _ _ bs _ HC.out).mono ?_
  rintro e w' ⟨rfl, rfl⟩
  go_wp2_with fail
  refine (spec_DrawSigned _ bs _ HC.out hl).mono ?_
  rintro e w1 ⟨root, text, S, a1, a2, a3, c1, c2, c3, rfl, hr16, ht9, hok, so, x1⟩
  obtain ⟨hw, h200, -⟩ := sigOk_parts hok
  have HSF := Lib.hid (sig_fit hw)
  have HB1 := Lib.hid (show sigTx S = sigT S by simp [sigTx, hw])
  have hsz : (sigT S).size = 321 := by have h := (sig_back hw).1; rw [rdSig, Bool.and_eq_true, decide_eq_true_eq] at h; exact h.1
  have HW := Lib.hid hw
  have HO := Lib.hid hok
  have ht : text.size ≤ maxLen := le_max ht9 (by omega)
  clear hw hok
  have e1 : Ext w1 (w1.alloc (Obj.cells #[.int .i64 S.at_, .slice a1 S.op.length c1, .slice a2 S.sh.length c2, .slice a3 S.si.length c3] 28)) := (Ext.refl _).alloc _
  have P := Bx.new w1 #[.int .i64 S.at_, .slice a1 S.op.length c1, .slice a2 S.sh.length c2, .slice a3 S.si.length c3] 28
  have SO := (so.ext e1).mono (Nat.zero_le _)
  have X0 := x1.trans e1
  clear so x1
  go_wp2_with fail
  generalize w1.alloc (Obj.cells #[.int .i64 S.at_, .slice a1 S.op.length c1, .slice a2 S.sh.length c2, .slice a3 S.si.length c3] 28) = w2 at *
  generalize w1.heap.size = B at *
  clear e1
  have p0 := P.2.1 0 _ rfl
  have p1 := P.2.1 1 _ rfl
  have p2 := P.2.1 2 _ rfl
  have p3 := P.2.1 3 _ rfl
  refine (impl_SigText _ _ _ S _ SO.1.strs SO.2.1.strs SO.2.2.1.strs HSF.out).mono ?_
  rw [HB1.out, HW.out]
  rintro e w3 ⟨rfl, x3⟩
  clear p0 p1 p2 p3
  replace P := P.ext x3
  replace SO := SO.ext x3
  replace X0 := X0.trans x3
  go_wp2_with fail
  refine (spec_DrawPlaces2 _ bs _ (HC.out.ext (Nat.le_refl _) X0 X0.size) hl).mono ?_
  rintro e w4 ⟨ys, pg, pc, rfl, hy, -, hpg, hcell, -, x4⟩
  have y0 := hcell 0 (by omega)
  have y1 := hcell 1 (by omega)
  have b0 := hy 0
  have b1 := hy 1
  clear hcell hy
  replace P := P.ext x4
  replace SO := SO.ext x4
  replace X0 := X0.trans x4
  go_wp2_with fail
  refine (laws_turned (sigT S) pg pc _ _ _ (by omega) hpg y0 y1 b0 b1).mono ?_
  rintro e w5 ⟨t2, rfl, hne, -, hz2, x5⟩
  have HNE := Lib.hid hne
  have hz3 : t2.size ≤ 322 := by omega
  clear hne hpg y0 y1 b0 b1 hsz hz2
  replace P := P.ext x5
  replace SO := SO.ext x5
  replace X0 := X0.trans x5
  go_wp2_with fail
  refine (impl_ReadSig t2 _ (by omega)).mono ?_
  have HRD := Lib.hid (fun hh : rdSig t2 = true => rdSig_text hh)
  generalize rdSigV t2 = X at *
  obtain ⟨rg, hrg⟩ : ∃ z, rdSig t2 = z := ⟨_, rfl⟩
  have HRG := Lib.hid hrg
  rw [hrg]
  clear hrg
  rintro e w6 ⟨d1, e1, d2, e2, d3, e3, rfl, tto, x6⟩
  replace P := P.ext x6
  replace SO := SO.ext x6
  replace X0 := X0.trans x6
  have e6 : Ext w6 (w6.alloc (Obj.cells #[.int .i64 X.at_, .slice d1 X.op.length e1, .slice d2 X.sh.length e2, .slice d3 X.si.length e3] 28)) := (Ext.refl _).alloc _
  have R := Bx.new w6 #[.int .i64 X.at_, .slice d1 X.op.length e1, .slice d2 X.sh.length e2, .slice d3 X.si.length e3] 28
  have TO := (tto.ext e6).mono (Nat.zero_le _)
  clear tto
  replace P := P.ext e6
  replace SO := SO.ext e6
  replace X0 := X0.trans e6
  go_upto_region 6 with (fail)
  generalize w6.alloc (Obj.cells #[.int .i64 X.at_, .slice d1 X.op.length e1, .slice d2 X.sh.length e2, .slice d3 X.si.length e3] 28) = w7 at *
  generalize w6.heap.size = D at *
  clear e6
  go_cut [67] (fun s67 wx => s67 = .bool false ∧ Ext w7 wx)
  case first =>
    cases rg
    · go_wp2_with fail
      go_meet
      exact ⟨rfl, Ext.refl _⟩
    · obtain ⟨hwx, htx⟩ := HRD.out HRG.out
      have HWX := Lib.hid hwx
      have HTX := Lib.hid htx
      have HXF := Lib.hid (sig_fit hwx)
      have HXS := Lib.hid (show X ≠ S from fun e => HNE.out (by rw [← HTX.out, e, HB1.out]))
      clear hwx htx HRD HRG
      have p0 := P.2.1 0 _ rfl
      have p1 := P.2.1 1 _ rfl
      have p2 := P.2.1 2 _ rfl
      have p3 := P.2.1 3 _ rfl
      have r0 := R.2.1 0 _ rfl
      have r1 := R.2.1 1 _ rfl
      have r2 := R.2.1 2 _ rfl
      have r3 := R.2.1 3 _ rfl
      by_cases hat : X.at_ = S.at_
      · have HAT := Lib.hid hat
        have hab : (X.at_ == S.at_) = true := by rw [hat]; simp
        clear hat
        go_wp2_with fail
        refine (impl_SigOk root text _ _ _ X _ TO.1.strs TO.2.1.strs TO.2.2.1.strs HXF.out ht (HT.out.ext X0)).mono ?_
        obtain ⟨ko, hko⟩ : ∃ z, sigOkB root text X = z := ⟨_, rfl⟩
        have HKO := Lib.hid hko
        rw [hko]
        clear hko p0 p1 p2 p3 r0 r1 r2 r3
        rintro e w8 ⟨rfl, x8⟩
        replace P := P.ext x8
        replace R := R.ext x8
        replace SO := SO.ext x8
        replace TO := TO.ext x8
        replace X0 := X0.trans x8
        have p0 := P.2.1 0 _ rfl
        have p1 := P.2.1 1 _ rfl
        have p2 := P.2.1 2 _ rfl
        have p3 := P.2.1 3 _ rfl
        have r0 := R.2.1 0 _ rfl
        have r1 := R.2.1 1 _ rfl
        have r2 := R.2.1 2 _ rfl
        have r3 := R.2.1 3 _ rfl
        cases ko
        · go_wp2_with fail
          go_meet
          exact ⟨rfl, x8⟩
        · go_wp2_with fail
          refine (laws_sameSigB _ _ _ _ _ _ X S _ TO.1.strs TO.2.1.strs TO.2.2.1.strs SO.1.strs SO.2.1.strs SO.2.2.1.strs).mono ?_
          rw [sgEq_no HXS.out]
          clear p0 p1 p2 p3 r0 r1 r2 r3
          rintro e w9 ⟨rfl, x9⟩
          replace P := P.ext x9
          replace R := R.ext x9
          replace SO := SO.ext x9
          replace TO := TO.ext x9
          replace X0 := X0.trans x9
          have p0 := P.2.1 0 _ rfl
          have p1 := P.2.1 1 _ rfl
          have p2 := P.2.1 2 _ rfl
          have p3 := P.2.1 3 _ rfl
          have r0 := R.2.1 0 _ rfl
          have r1 := R.2.1 1 _ rfl
          have r2 := R.2.1 2 _ rfl
          have r3 := R.2.1 3 _ rfl
          go_wp2_with fail
          refine (laws_locked text root X S _ _ _ _ _ _ _ HKO.out HO.out HAT.out TO.1.strs TO.2.1.strs TO.2.2.1.strs SO.1.strs SO.2.1.strs SO.2.2.1.strs (HT.out.ext X0)).mono ?_
          rintro e w10 ⟨rfl, x10⟩
          go_wp2_with fail
          go_meet
          exact ⟨rfl, (x8.trans x9).trans x10⟩
      · have hab : (X.at_ == S.at_) = false := beq_eq_false_iff_ne.2 hat
        clear hat
        go_wp2_with fail
        go_meet
        exact ⟨rfl, Ext.refl _⟩
  case rest =>
    obtain ⟨rfl, xc⟩ := hcut
    generalize wc = w8 at *
    clear R TO P SO HRD HRG HNE HO HW HSF HB1
    replace X0 := X0.trans xc
    go_wp2_with fail
    refine (spec_DrawSigOk _ bs _ (HC.out.ext (Nat.le_refl _) X0 X0.size) hl).mono ?_
    rintro e w9 ⟨rt, tx, T, f1, f2, f3, g1, g2, g3, rfl, -, ht2, hTF, tr, x9⟩
    have HTF := Lib.hid hTF
    clear hTF
    have htm : tx.size ≤ maxLen := le_max ht2 (by omega)
    replace X0 := X0.trans x9
    have e9 : Ext w9 (w9.alloc (Obj.cells #[.int .i64 T.at_, .slice f1 T.op.length g1, .slice f2 T.sh.length g2, .slice f3 T.si.length g3] 28)) := (Ext.refl _).alloc _
    have Q := Bx.new w9 #[.int .i64 T.at_, .slice f1 T.op.length g1, .slice f2 T.sh.length g2, .slice f3 T.si.length g3] 28
    have TR := tr.ext e9
    clear tr
    replace X0 := X0.trans e9
    go_wp2_with fail
    generalize w9.alloc (Obj.cells #[.int .i64 T.at_, .slice f1 T.op.length g1, .slice f2 T.sh.length g2, .slice f3 T.si.length g3] 28) = w10 at *
    generalize w9.heap.size = F at *
    clear e9
    refine (spec_DrawReadSig _ bs _ (HC.out.ext (Nat.le_refl _) X0 X0.size) hl).mono ?_
    rintro e w11 ⟨d, rfl, hd, x11⟩
    replace X0 := X0.trans x11
    replace Q := Q.ext x11
    replace TR := TR.ext x11
    have HRD := Lib.hid (fun hh : rdSig d = true => (rdSig_text hh))
    have HYF := Lib.hid (show SigFit (rdSigV d) by by_cases hh : rdSig d = true; exact sig_fit (rdSig_text hh).1; rw [rdSigV, if_neg hh]; exact ⟨fun z hz => by simp at hz, fun z hz => by simp at hz, fun z hz => by simp at hz⟩)
    go_wp2_with fail
    refine (impl_ReadSig d _ (by omega)).mono ?_
    generalize rdSigV d = Y at *
    obtain ⟨rg2, hrg⟩ : ∃ z, rdSig d = z := ⟨_, rfl⟩
    have HRG := Lib.hid hrg
    rw [hrg]
    clear hrg
    rintro e w12 ⟨h1, i1, h2, i2, h3, i3, rfl, yo, x12⟩
    replace X0 := X0.trans x12
    replace Q := Q.ext x12
    replace TR := TR.ext x12
    have e12 : Ext w12 (w12.alloc (Obj.cells #[.int .i64 Y.at_, .slice h1 Y.op.length i1, .slice h2 Y.sh.length i2, .slice h3 Y.si.length i3] 28)) := (Ext.refl _).alloc _
    have U := Bx.new w12 #[.int .i64 Y.at_, .slice h1 Y.op.length i1, .slice h2 Y.sh.length i2, .slice h3 Y.si.length i3] 28
    have YO := (yo.ext e12).mono (Nat.zero_le _)
    clear yo
    replace X0 := X0.trans e12
    replace Q := Q.ext e12
    replace TR := TR.ext e12
    go_wp2_with fail
    generalize w12.alloc (Obj.cells #[.int .i64 Y.at_, .slice h1 Y.op.length i1, .slice h2 Y.sh.length i2, .slice h3 Y.si.length i3] 28) = w13 at *
    generalize w12.heap.size = H at *
    clear e12
    refine (spec_ReadSig d _ (by omega)).mono ?_
    rw [HRG.out]
    rintro e w14 ⟨j1, k1, j2, k2, j3, k3, rfl, -, x14⟩
    replace X0 := X0.trans x14
    replace Q := Q.ext x14
    replace TR := TR.ext x14
    replace U := U.ext x14
    replace YO := YO.ext x14
    generalize rdSigV d = Z at *
    have e14 : Ext w14 (w14.alloc (Obj.cells #[.int .i64 Z.at_, .slice j1 Z.op.length k1, .slice j2 Z.sh.length k2, .slice j3 Z.si.length k3] 28)) := (Ext.refl _).alloc _
    replace X0 := X0.trans e14
    replace Q := Q.ext e14
    replace TR := TR.ext e14
    replace U := U.ext e14
    replace YO := YO.ext e14
    have u0 := U.2.1 0 _ rfl
    have u1 := U.2.1 1 _ rfl
    have u2 := U.2.1 2 _ rfl
    have u3 := U.2.1 3 _ rfl
    go_wp2_with fail
    generalize w14.alloc (Obj.cells #[.int .i64 Z.at_, .slice j1 Z.op.length k1, .slice j2 Z.sh.length k2, .slice j3 Z.si.length k3] 28) = w15 at *
    clear e14
    refine (impl_SigText _ _ _ Y _ YO.1.strs YO.2.1.strs YO.2.2.1.strs HYF.out).mono ?_
    have HAG := Lib.hid (fun hh : rg2 = true => (HRD.out (by rw [HRG.out, hh])).2)
    generalize sigTx Y = ag at *
    generalize sigWell Y = wy at *
    rintro e w16 ⟨rfl, x16⟩
    clear u0 u1 u2 u3 U YO HRD HRG HYF
    replace X0 := X0.trans x16
    replace Q := Q.ext x16
    replace TR := TR.ext x16
    go_wp2_with fail
    refine wp_region_held_drew (S := (fun W => W.cell? ⟨F, 0, none⟩ = some (.int .i64 T.at_) ∧ W.cell? ⟨F, 1, none⟩ = some (.slice f1 T.op.length g1) ∧ W.cell? ⟨F, 2, none⟩ = some (.slice f2 T.sh.length g2) ∧ W.cell? ⟨F, 3, none⟩ = some (.slice f3 T.si.length g3))) (by kernel_rfl) (by exact ⟨Q.2.1 0 _ rfl, Q.2.1 1 _ rfl, Q.2.1 2 _ rfl, Q.2.1 3 _ rfl⟩) (fun hHeld => ?_)
    have xd : Ext w16 w16.drew := (Ext.refl w16).drew
    replace X0 := X0.trans xd
    replace Q := Q.ext xd
    replace TR := TR.ext xd
    generalize w16.drew = w17 at *
    (refine wpAnyH_take (i := 0) (v := ?_) rfl (by kernel_rfl) (by kernel_rfl) (by kernel_rfl) (fun _ _ _ h => h) (Or.inl ⟨by rfl, ?_⟩) (by assumption) ?_; rotate_left; focus (intro w hSw; (try dsimp only at hSw); (try simp only [List.getElem_toArray, List.getElem_cons_zero]); go_simp; try with_reducible rfl)); (try simp only [List.getElem_toArray, List.getElem_cons_zero]); (try simp only [Act.put, List.setIfInBounds_toArray, List.set_cons_zero, List.set_cons_succ])
    (refine wpAnyH_take (i := 1) (v := ?_) rfl (by kernel_rfl) (by kernel_rfl) (by kernel_rfl) (fun _ _ _ h => h) (Or.inl ⟨by rfl, ?_⟩) (by assumption) ?_; rotate_left; focus (intro w hSw; (try dsimp only at hSw); (try simp only [List.getElem_toArray, List.getElem_cons_zero, List.getElem_cons_succ]); go_simp; try with_reducible rfl)); (try simp only [List.getElem_toArray, List.getElem_cons_zero, List.getElem_cons_succ]); (try simp only [Act.put, List.setIfInBounds_toArray, List.set_cons_zero, List.set_cons_succ])
    (refine wpAnyH_take (i := 2) (v := ?_) rfl (by kernel_rfl) (by kernel_rfl) (by kernel_rfl) (fun _ _ _ h => h) (Or.inl ⟨by rfl, ?_⟩) (by assumption) ?_; rotate_left; focus (intro w hSw; (try dsimp only at hSw); (try simp only [List.getElem_toArray, List.getElem_cons_zero, List.getElem_cons_succ]); go_simp; try with_reducible rfl)); (try simp only [List.getElem_toArray, List.getElem_cons_zero, List.getElem_cons_succ]); (try simp only [Act.put, List.setIfInBounds_toArray, List.set_cons_zero, List.set_cons_succ])
    (refine wpAnyH_take (i := 3) (v := ?_) rfl (by kernel_rfl) (by kernel_rfl) (by kernel_rfl) (fun _ _ _ h => h) (Or.inl ⟨by rfl, ?_⟩) (by assumption) ?_; rotate_left; focus (intro w hSw; (try dsimp only at hSw); (try simp only [List.getElem_toArray, List.getElem_cons_zero, List.getElem_cons_succ]); go_simp; try with_reducible rfl)); (try simp only [List.getElem_toArray, List.getElem_cons_zero, List.getElem_cons_succ]); (try simp only [Act.put, List.setIfInBounds_toArray, List.set_cons_zero, List.set_cons_succ])
    (refine wpAnyH_take (i := 4) (v := ?_) rfl (by kernel_rfl) (by kernel_rfl) (by kernel_rfl) (fun _ _ _ h => h) (Or.inl ⟨by rfl, ?_⟩) (by assumption) ?_; rotate_left; focus (intro w hSw; (try dsimp only at hSw); (try simp only [List.getElem_toArray, List.getElem_cons_zero, List.getElem_cons_succ]); go_simp; try with_reducible rfl)); (try simp only [List.getElem_toArray, List.getElem_cons_zero, List.getElem_cons_succ]); (try simp only [Act.put, List.setIfInBounds_toArray, List.set_cons_zero, List.set_cons_succ])
    (refine wpAnyH_take (i := 6) (v := ?_) rfl (by kernel_rfl) (by kernel_rfl) (by kernel_rfl) (fun _ _ _ h => h) (Or.inl ⟨by rfl, ?_⟩) (by assumption) ?_; rotate_left; focus (intro w hSw; (try dsimp only at hSw); (try simp only [List.getElem_toArray, List.getElem_cons_zero, List.getElem_cons_succ]); go_simp; try with_reducible rfl)); (try simp only [List.getElem_toArray, List.getElem_cons_zero, List.getElem_cons_succ]); (try simp only [Act.put, List.setIfInBounds_toArray, List.set_cons_zero, List.set_cons_succ])
    (refine wpAnyH_take (i := 7) (v := ?_) rfl (by kernel_rfl) (by kernel_rfl) (by kernel_rfl) (fun _ _ _ h => h) (Or.inl ⟨by rfl, ?_⟩) (by assumption) ?_; rotate_left; focus (intro w hSw; (try dsimp only at hSw); (try simp only [List.getElem_toArray, List.getElem_cons_zero, List.getElem_cons_succ]); go_simp; try with_reducible rfl)); (try simp only [List.getElem_toArray, List.getElem_cons_zero, List.getElem_cons_succ]); (try simp only [Act.put, List.setIfInBounds_toArray, List.set_cons_zero, List.set_cons_succ])
    (refine wpAnyH_take (i := 8) (v := ?_) rfl (by kernel_rfl) (by kernel_rfl) (by kernel_rfl) (fun _ _ _ h => h) (Or.inl ⟨by rfl, ?_⟩) (by assumption) ?_; rotate_left; focus (intro w hSw; (try dsimp only at hSw); (try simp only [List.getElem_toArray, List.getElem_cons_zero, List.getElem_cons_succ]); go_simp; try with_reducible rfl)); (try simp only [List.getElem_toArray, List.getElem_cons_zero, List.getElem_cons_succ]); (try simp only [Act.put, List.setIfInBounds_toArray, List.set_cons_zero, List.set_cons_succ])
    (refine wpAnyH_ready (rs := [5]) (by kernel_rfl) (by simp) ?_; refine AllReadyH.cons rfl (fun K hK => ?_) AllReadyH.nil; (try simp only [List.getElem_toArray, List.getElem_cons_zero, List.getElem_cons_succ]))
    go_simp
    go_at_call 29
    refine (impl_SigOk rt tx _ _ _ T _ TR.1.1 TR.2.1.1 TR.2.2.1 HTF.out htm (HT.out.ext X0)).mono ?_
    rintro e w18 ⟨rfl, x18⟩
    replace X0 := X0.trans x18
    replace Q := Q.ext x18
    replace TR := TR.ext x18
    (try dsimp only)
    refine hK.out _ _ (by exact ⟨Q.2.1 0 _ rfl, Q.2.1 1 _ rfl, Q.2.1 2 _ rfl, Q.2.1 3 _ rfl⟩) (fun hHeld => ?_)
    clear hK K
    (refine wpAnyH_ready (rs := [9]) (by kernel_rfl) (by simp) ?_; refine AllReadyH.cons rfl (fun K hK => ?_) AllReadyH.nil; (try simp only [List.getElem_toArray, List.getElem_cons_zero, List.getElem_cons_succ]))
    go_simp
    go_at_call 43
    refine (spec_SigOk rt tx _ _ _ T _ TR.1.1 TR.2.1.1 TR.2.2.1 HTF.out htm).mono ?_
    generalize sigOkB rt tx T = kk at *
    rintro e w19 ⟨rfl, x19⟩
    replace X0 := X0.trans x19
    replace Q := Q.ext x19
    replace TR := TR.ext x19
    (try dsimp only)
    refine hK.out _ _ (by exact ⟨Q.2.1 0 _ rfl, Q.2.1 1 _ rfl, Q.2.1 2 _ rfl, Q.2.1 3 _ rfl⟩) (fun hHeld => ?_)
    clear hK K
    cases kk <;> cases rg2
    · (refine wpAnyH_take (i := 10) (v := ?_) rfl (by kernel_rfl) (by kernel_rfl) (by kernel_rfl) (fun _ _ _ h => h) (Or.inl ⟨by rfl, ?_⟩) (by assumption) ?_; rotate_left; focus (intro w hSw; (try dsimp only at hSw); (try simp only [List.getElem_toArray, List.getElem_cons_zero, List.getElem_cons_succ]); go_simp; try with_reducible rfl)); (try simp only [List.getElem_toArray, List.getElem_cons_zero, List.getElem_cons_succ]); (try simp only [Act.put, List.setIfInBounds_toArray, List.set_cons_zero, List.set_cons_succ])
      (refine wpAnyH_take (i := 11) (v := ?_) rfl (by kernel_rfl) (by kernel_rfl) (by kernel_rfl) (fun _ _ _ h => h) (Or.inl ⟨by rfl, ?_⟩) (by assumption) ?_; rotate_left; focus (intro w hSw; (try dsimp only at hSw); (try simp only [List.getElem_toArray, List.getElem_cons_zero, List.getElem_cons_succ]); go_simp; try with_reducible rfl)); (try simp only [List.getElem_toArray, List.getElem_cons_zero, List.getElem_cons_succ]); (try simp only [Act.put, List.setIfInBounds_toArray, List.set_cons_zero, List.set_cons_succ])
      (refine wpAnyH_take (i := 12) (v := ?_) rfl (by kernel_rfl) (by kernel_rfl) (by kernel_rfl) (fun _ _ _ h => h) (Or.inl ⟨by rfl, ?_⟩) (by assumption) ?_; rotate_left; focus (intro w hSw; (try dsimp only at hSw); (try simp only [List.getElem_toArray, List.getElem_cons_zero, List.getElem_cons_succ]); go_simp; try with_reducible rfl)); (try simp only [List.getElem_toArray, List.getElem_cons_zero, List.getElem_cons_succ]); (try simp only [Act.put, List.setIfInBounds_toArray, List.set_cons_zero, List.set_cons_succ])
      (refine wpAnyH_take (i := 13) (v := ?_) rfl (by kernel_rfl) (by kernel_rfl) (by kernel_rfl) (fun _ _ _ h => h) (Or.inl ⟨by rfl, ?_⟩) (by assumption) ?_; rotate_left; focus (intro w hSw; (try dsimp only at hSw); (try simp only [List.getElem_toArray, List.getElem_cons_zero, List.getElem_cons_succ]); go_simp; try with_reducible rfl)); (try simp only [List.getElem_toArray, List.getElem_cons_zero, List.getElem_cons_succ]); (try simp only [Act.put, List.setIfInBounds_toArray, List.set_cons_zero, List.set_cons_succ])
      (refine wpAnyH_take (i := 14) (v := ?_) rfl (by kernel_rfl) (by kernel_rfl) (by kernel_rfl) (fun _ _ _ h => h) (Or.inl ⟨by rfl, ?_⟩) (by assumption) ?_; rotate_left; focus (intro w hSw; (try dsimp only at hSw); (try simp only [List.getElem_toArray, List.getElem_cons_zero, List.getElem_cons_succ]); go_simp; try with_reducible rfl)); (try simp only [List.getElem_toArray, List.getElem_cons_zero, List.getElem_cons_succ]); (try simp only [Act.put, List.setIfInBounds_toArray, List.set_cons_zero, List.set_cons_succ])
      (refine wpAnyH_take (i := 15) (v := ?_) rfl (by kernel_rfl) (by kernel_rfl) (by kernel_rfl) (fun _ _ _ h => h) (Or.inl ⟨by rfl, ?_⟩) (by assumption) ?_; rotate_left; focus (intro w hSw; (try dsimp only at hSw); (try simp only [List.getElem_toArray, List.getElem_cons_zero, List.getElem_cons_succ]); go_simp; try with_reducible rfl)); (try simp only [List.getElem_toArray, List.getElem_cons_zero, List.getElem_cons_succ]); (try simp only [Act.put, List.setIfInBounds_toArray, List.set_cons_zero, List.set_cons_succ])
      (refine wpAnyH_take (i := 16) (v := ?_) rfl (by kernel_rfl) (by kernel_rfl) (by kernel_rfl) (fun _ _ _ h => h) (Or.inl ⟨by rfl, ?_⟩) (by assumption) ?_; rotate_left; focus (intro w hSw; (try dsimp only at hSw); (try simp only [List.getElem_toArray, List.getElem_cons_zero, List.getElem_cons_succ]); go_simp; try with_reducible rfl)); (try simp only [List.getElem_toArray, List.getElem_cons_zero, List.getElem_cons_succ]); (try simp only [Act.put, List.setIfInBounds_toArray, List.set_cons_zero, List.set_cons_succ])
      (refine wpAnyH_take (i := 17) (v := ?_) rfl (by kernel_rfl) (by kernel_rfl) (by kernel_rfl) (fun _ _ _ h => h) (Or.inl ⟨by rfl, ?_⟩) (by assumption) ?_; rotate_left; focus (intro w hSw; (try dsimp only at hSw); (try simp only [List.getElem_toArray, List.getElem_cons_zero, List.getElem_cons_succ]); go_simp; try with_reducible rfl)); (try simp only [List.getElem_toArray, List.getElem_cons_zero, List.getElem_cons_succ]); (try simp only [Act.put, List.setIfInBounds_toArray, List.set_cons_zero, List.set_cons_succ])
      (refine wpAnyH_take (i := 18) (v := ?_) rfl (by kernel_rfl) (by kernel_rfl) (by kernel_rfl) (fun _ _ _ h => h) (Or.inl ⟨by rfl, ?_⟩) (by assumption) ?_; rotate_left; focus (intro w hSw; (try dsimp only at hSw); (try simp only [List.getElem_toArray, List.getElem_cons_zero, List.getElem_cons_succ]); go_simp; try with_reducible rfl)); (try simp only [List.getElem_toArray, List.getElem_cons_zero, List.getElem_cons_succ]); (try simp only [Act.put, List.setIfInBounds_toArray, List.set_cons_zero, List.set_cons_succ])
      (refine wpAnyH_take (i := 19) (v := ?_) rfl (by kernel_rfl) (by kernel_rfl) (by kernel_rfl) (fun _ _ _ h => h) (Or.inl ⟨by rfl, ?_⟩) (by assumption) ?_; rotate_left; focus (intro w hSw; (try dsimp only at hSw); (try simp only [List.getElem_toArray, List.getElem_cons_zero, List.getElem_cons_succ]); go_simp; try with_reducible rfl)); (try simp only [List.getElem_toArray, List.getElem_cons_zero, List.getElem_cons_succ]); (try simp only [Act.put, List.setIfInBounds_toArray, List.set_cons_zero, List.set_cons_succ])
      (refine wpAnyH_take (i := 20) (v := ?_) rfl (by kernel_rfl) (by kernel_rfl) (by kernel_rfl) (fun _ _ _ h => h) (Or.inl ⟨by rfl, ?_⟩) (by assumption) ?_; rotate_left; focus (intro w hSw; (try dsimp only at hSw); (try simp only [List.getElem_toArray, List.getElem_cons_zero, List.getElem_cons_succ]); go_simp; try with_reducible rfl)); (try simp only [List.getElem_toArray, List.getElem_cons_zero, List.getElem_cons_succ]); (try simp only [Act.put, List.setIfInBounds_toArray, List.set_cons_zero, List.set_cons_succ])
      (refine wpAnyH_take (i := 21) rfl (by kernel_rfl) (by kernel_rfl) (by kernel_rfl) (fun _ _ _ h => h) (Or.inr ⟨by rfl, rfl⟩) (by assumption) ?_); (try simp only [List.getElem_toArray, List.getElem_cons_zero, List.getElem_cons_succ]); (try simp only [Act.put, List.setIfInBounds_toArray, List.set_cons_zero, List.set_cons_succ])
      (refine wpAnyH_take (i := 22) rfl (by kernel_rfl) (by kernel_rfl) (by kernel_rfl) (fun _ _ _ h => h) (Or.inr ⟨by rfl, rfl⟩) (by assumption) ?_); (try simp only [List.getElem_toArray, List.getElem_cons_zero, List.getElem_cons_succ]); (try simp only [Act.put, List.setIfInBounds_toArray, List.set_cons_zero, List.set_cons_succ])
      (refine wpAnyH_take (i := 23) rfl (by kernel_rfl) (by kernel_rfl) (by kernel_rfl) (fun _ _ _ h => h) (Or.inr ⟨by rfl, rfl⟩) (by assumption) ?_); (try simp only [List.getElem_toArray, List.getElem_cons_zero, List.getElem_cons_succ]); (try simp only [Act.put, List.setIfInBounds_toArray, List.set_cons_zero, List.set_cons_succ])
      (refine wpAnyH_take (i := 24) (v := ?_) rfl (by kernel_rfl) (by kernel_rfl) (by kernel_rfl) (fun _ _ _ h => h) (Or.inl ⟨by rfl, ?_⟩) (by assumption) ?_; rotate_left; focus (intro w hSw; (try dsimp only at hSw); (try simp only [List.getElem_toArray, List.getElem_cons_zero, List.getElem_cons_succ]); go_simp; try with_reducible rfl)); (try simp only [List.getElem_toArray, List.getElem_cons_zero, List.getElem_cons_succ]); (try simp only [Act.put, List.setIfInBounds_toArray, List.set_cons_zero, List.set_cons_succ])
      (refine wpAnyH_take (i := 25) (v := ?_) rfl (by kernel_rfl) (by kernel_rfl) (by kernel_rfl) (fun _ _ _ h => h) (Or.inl ⟨by rfl, ?_⟩) (by assumption) ?_; rotate_left; focus (intro w hSw; (try dsimp only at hSw); (try simp only [List.getElem_toArray, List.getElem_cons_zero, List.getElem_cons_succ]); go_simp; try with_reducible rfl)); (try simp only [List.getElem_toArray, List.getElem_cons_zero, List.getElem_cons_succ]); (try simp only [Act.put, List.setIfInBounds_toArray, List.set_cons_zero, List.set_cons_succ])
      (refine wpAnyH_take (i := 26) (v := ?_) rfl (by kernel_rfl) (by kernel_rfl) (by kernel_rfl) (fun _ _ _ h => h) (Or.inl ⟨by rfl, ?_⟩) (by assumption) ?_; rotate_left; focus (intro w hSw; (try dsimp only at hSw); (try simp only [List.getElem_toArray, List.getElem_cons_zero, List.getElem_cons_succ]); go_simp; try with_reducible rfl)); (try simp only [List.getElem_toArray, List.getElem_cons_zero, List.getElem_cons_succ]); (try simp only [Act.put, List.setIfInBounds_toArray, List.set_cons_zero, List.set_cons_succ])
      refine wpAnyH_done (by kernel_rfl) ?_ _
      go_wp2
      go_ret
      exact ⟨rfl, X0⟩
    · (refine wpAnyH_take (i := 10) (v := ?_) rfl (by kernel_rfl) (by kernel_rfl) (by kernel_rfl) (fun _ _ _ h => h) (Or.inl ⟨by rfl, ?_⟩) (by assumption) ?_; rotate_left; focus (intro w hSw; (try dsimp only at hSw); (try simp only [List.getElem_toArray, List.getElem_cons_zero, List.getElem_cons_succ]); go_simp; try with_reducible rfl)); (try simp only [List.getElem_toArray, List.getElem_cons_zero, List.getElem_cons_succ]); (try simp only [Act.put, List.setIfInBounds_toArray, List.set_cons_zero, List.set_cons_succ])
      (refine wpAnyH_take (i := 11) (v := ?_) rfl (by kernel_rfl) (by kernel_rfl) (by kernel_rfl) (fun _ _ _ h => h) (Or.inl ⟨by rfl, ?_⟩) (by assumption) ?_; rotate_left; focus (intro w hSw; (try dsimp only at hSw); (try simp only [List.getElem_toArray, List.getElem_cons_zero, List.getElem_cons_succ]); go_simp; try with_reducible rfl)); (try simp only [List.getElem_toArray, List.getElem_cons_zero, List.getElem_cons_succ]); (try simp only [Act.put, List.setIfInBounds_toArray, List.set_cons_zero, List.set_cons_succ])
      (refine wpAnyH_take (i := 12) (v := ?_) rfl (by kernel_rfl) (by kernel_rfl) (by kernel_rfl) (fun _ _ _ h => h) (Or.inl ⟨by rfl, ?_⟩) (by assumption) ?_; rotate_left; focus (intro w hSw; (try dsimp only at hSw); (try simp only [List.getElem_toArray, List.getElem_cons_zero, List.getElem_cons_succ]); go_simp; try with_reducible rfl)); (try simp only [List.getElem_toArray, List.getElem_cons_zero, List.getElem_cons_succ]); (try simp only [Act.put, List.setIfInBounds_toArray, List.set_cons_zero, List.set_cons_succ])
      (refine wpAnyH_take (i := 13) (v := ?_) rfl (by kernel_rfl) (by kernel_rfl) (by kernel_rfl) (fun _ _ _ h => h) (Or.inl ⟨by rfl, ?_⟩) (by assumption) ?_; rotate_left; focus (intro w hSw; (try dsimp only at hSw); (try simp only [List.getElem_toArray, List.getElem_cons_zero, List.getElem_cons_succ]); go_simp; try with_reducible rfl)); (try simp only [List.getElem_toArray, List.getElem_cons_zero, List.getElem_cons_succ]); (try simp only [Act.put, List.setIfInBounds_toArray, List.set_cons_zero, List.set_cons_succ])
      (refine wpAnyH_take (i := 14) (v := ?_) rfl (by kernel_rfl) (by kernel_rfl) (by kernel_rfl) (fun _ _ _ h => h) (Or.inl ⟨by rfl, ?_⟩) (by assumption) ?_; rotate_left; focus (intro w hSw; (try dsimp only at hSw); (try simp only [List.getElem_toArray, List.getElem_cons_zero, List.getElem_cons_succ]); go_simp; try with_reducible rfl)); (try simp only [List.getElem_toArray, List.getElem_cons_zero, List.getElem_cons_succ]); (try simp only [Act.put, List.setIfInBounds_toArray, List.set_cons_zero, List.set_cons_succ])
      (refine wpAnyH_take (i := 15) (v := ?_) rfl (by kernel_rfl) (by kernel_rfl) (by kernel_rfl) (fun _ _ _ h => h) (Or.inl ⟨by rfl, ?_⟩) (by assumption) ?_; rotate_left; focus (intro w hSw; (try dsimp only at hSw); (try simp only [List.getElem_toArray, List.getElem_cons_zero, List.getElem_cons_succ]); go_simp; try with_reducible rfl)); (try simp only [List.getElem_toArray, List.getElem_cons_zero, List.getElem_cons_succ]); (try simp only [Act.put, List.setIfInBounds_toArray, List.set_cons_zero, List.set_cons_succ])
      (refine wpAnyH_take (i := 16) (v := ?_) rfl (by kernel_rfl) (by kernel_rfl) (by kernel_rfl) (fun _ _ _ h => h) (Or.inl ⟨by rfl, ?_⟩) (by assumption) ?_; rotate_left; focus (intro w hSw; (try dsimp only at hSw); (try simp only [List.getElem_toArray, List.getElem_cons_zero, List.getElem_cons_succ]); go_simp; try with_reducible rfl)); (try simp only [List.getElem_toArray, List.getElem_cons_zero, List.getElem_cons_succ]); (try simp only [Act.put, List.setIfInBounds_toArray, List.set_cons_zero, List.set_cons_succ])
      (refine wpAnyH_take (i := 17) (v := ?_) rfl (by kernel_rfl) (by kernel_rfl) (by kernel_rfl) (fun _ _ _ h => h) (Or.inl ⟨by rfl, ?_⟩) (by assumption) ?_; rotate_left; focus (intro w hSw; (try dsimp only at hSw); (try simp only [List.getElem_toArray, List.getElem_cons_zero, List.getElem_cons_succ]); go_simp; try with_reducible rfl)); (try simp only [List.getElem_toArray, List.getElem_cons_zero, List.getElem_cons_succ]); (try simp only [Act.put, List.setIfInBounds_toArray, List.set_cons_zero, List.set_cons_succ])
      (refine wpAnyH_take (i := 18) (v := ?_) rfl (by kernel_rfl) (by kernel_rfl) (by kernel_rfl) (fun _ _ _ h => h) (Or.inl ⟨by rfl, ?_⟩) (by assumption) ?_; rotate_left; focus (intro w hSw; (try dsimp only at hSw); (try simp only [List.getElem_toArray, List.getElem_cons_zero, List.getElem_cons_succ]); go_simp; try with_reducible rfl)); (try simp only [List.getElem_toArray, List.getElem_cons_zero, List.getElem_cons_succ]); (try simp only [Act.put, List.setIfInBounds_toArray, List.set_cons_zero, List.set_cons_succ])
      (refine wpAnyH_take (i := 19) (v := ?_) rfl (by kernel_rfl) (by kernel_rfl) (by kernel_rfl) (fun _ _ _ h => h) (Or.inl ⟨by rfl, ?_⟩) (by assumption) ?_; rotate_left; focus (intro w hSw; (try dsimp only at hSw); (try simp only [List.getElem_toArray, List.getElem_cons_zero, List.getElem_cons_succ]); go_simp; try with_reducible rfl)); (try simp only [List.getElem_toArray, List.getElem_cons_zero, List.getElem_cons_succ]); (try simp only [Act.put, List.setIfInBounds_toArray, List.set_cons_zero, List.set_cons_succ])
      (refine wpAnyH_take (i := 20) (v := ?_) rfl (by kernel_rfl) (by kernel_rfl) (by kernel_rfl) (fun _ _ _ h => h) (Or.inl ⟨by rfl, ?_⟩) (by assumption) ?_; rotate_left; focus (intro w hSw; (try dsimp only at hSw); (try simp only [List.getElem_toArray, List.getElem_cons_zero, List.getElem_cons_succ]); go_simp; try with_reducible rfl)); (try simp only [List.getElem_toArray, List.getElem_cons_zero, List.getElem_cons_succ]); (try simp only [Act.put, List.setIfInBounds_toArray, List.set_cons_zero, List.set_cons_succ])
      obtain rfl := HAG.out rfl
      (refine wpAnyH_take (i := 21) (v := ?_) rfl (by kernel_rfl) (by kernel_rfl) (by kernel_rfl) (fun _ _ _ h => h) (Or.inl ⟨by rfl, ?_⟩) (by assumption) ?_; rotate_left; focus (intro w hSw; (try dsimp only at hSw); (try simp only [List.getElem_toArray, List.getElem_cons_zero, List.getElem_cons_succ]); go_simp; try with_reducible rfl)); (try simp only [List.getElem_toArray, List.getElem_cons_zero, List.getElem_cons_succ]); (try simp only [Act.put, List.setIfInBounds_toArray, List.set_cons_zero, List.set_cons_succ])
      (refine wpAnyH_take (i := 22) (v := ?_) rfl (by kernel_rfl) (by kernel_rfl) (by kernel_rfl) (fun _ _ _ h => h) (Or.inl ⟨by rfl, ?_⟩) (by assumption) ?_; rotate_left; focus (intro w hSw; (try dsimp only at hSw); (try simp only [List.getElem_toArray, List.getElem_cons_zero, List.getElem_cons_succ]); go_simp; try with_reducible rfl)); (try simp only [List.getElem_toArray, List.getElem_cons_zero, List.getElem_cons_succ]); (try simp only [Act.put, List.setIfInBounds_toArray, List.set_cons_zero, List.set_cons_succ])
      (refine wpAnyH_take (i := 23) (v := .bool true) rfl (by kernel_rfl) (by kernel_rfl) (by kernel_rfl) (fun _ _ _ h => h) (Or.inl ⟨by rfl, ?_⟩) (by assumption) ?_; focus (intro w hSw; (try dsimp only at hSw); (try simp only [List.getElem_toArray, List.getElem_cons_zero, List.getElem_cons_succ]); go_simp; (try simp))); (try simp only [List.getElem_toArray, List.getElem_cons_zero, List.getElem_cons_succ]); (try simp only [Act.put, List.setIfInBounds_toArray, List.set_cons_zero, List.set_cons_succ])
      (refine wpAnyH_take (i := 24) (v := ?_) rfl (by kernel_rfl) (by kernel_rfl) (by kernel_rfl) (fun _ _ _ h => h) (Or.inl ⟨by rfl, ?_⟩) (by assumption) ?_; rotate_left; focus (intro w hSw; (try dsimp only at hSw); (try simp only [List.getElem_toArray, List.getElem_cons_zero, List.getElem_cons_succ]); go_simp; try with_reducible rfl)); (try simp only [List.getElem_toArray, List.getElem_cons_zero, List.getElem_cons_succ]); (try simp only [Act.put, List.setIfInBounds_toArray, List.set_cons_zero, List.set_cons_succ])
      (refine wpAnyH_take (i := 25) (v := ?_) rfl (by kernel_rfl) (by kernel_rfl) (by kernel_rfl) (fun _ _ _ h => h) (Or.inl ⟨by rfl, ?_⟩) (by assumption) ?_; rotate_left; focus (intro w hSw; (try dsimp only at hSw); (try simp only [List.getElem_toArray, List.getElem_cons_zero, List.getElem_cons_succ]); go_simp; try with_reducible rfl)); (try simp only [List.getElem_toArray, List.getElem_cons_zero, List.getElem_cons_succ]); (try simp only [Act.put, List.setIfInBounds_toArray, List.set_cons_zero, List.set_cons_succ])
      (refine wpAnyH_take (i := 26) (v := ?_) rfl (by kernel_rfl) (by kernel_rfl) (by kernel_rfl) (fun _ _ _ h => h) (Or.inl ⟨by rfl, ?_⟩) (by assumption) ?_; rotate_left; focus (intro w hSw; (try dsimp only at hSw); (try simp only [List.getElem_toArray, List.getElem_cons_zero, List.getElem_cons_succ]); go_simp; try with_reducible rfl)); (try simp only [List.getElem_toArray, List.getElem_cons_zero, List.getElem_cons_succ]); (try simp only [Act.put, List.setIfInBounds_toArray, List.set_cons_zero, List.set_cons_succ])
      refine wpAnyH_done (by kernel_rfl) ?_ _
      go_wp2
      go_ret
      exact ⟨rfl, X0⟩
    · (refine wpAnyH_take (i := 10) (v := ?_) rfl (by kernel_rfl) (by kernel_rfl) (by kernel_rfl) (fun _ _ _ h => h) (Or.inl ⟨by rfl, ?_⟩) (by assumption) ?_; rotate_left; focus (intro w hSw; (try dsimp only at hSw); (try simp only [List.getElem_toArray, List.getElem_cons_zero, List.getElem_cons_succ]); go_simp; try with_reducible rfl)); (try simp only [List.getElem_toArray, List.getElem_cons_zero, List.getElem_cons_succ]); (try simp only [Act.put, List.setIfInBounds_toArray, List.set_cons_zero, List.set_cons_succ])
      (refine wpAnyH_take (i := 11) (v := ?_) rfl (by kernel_rfl) (by kernel_rfl) (by kernel_rfl) (fun _ _ _ h => h) (Or.inl ⟨by rfl, ?_⟩) (by assumption) ?_; rotate_left; focus (intro w hSw; (try dsimp only at hSw); (try simp only [List.getElem_toArray, List.getElem_cons_zero, List.getElem_cons_succ]); go_simp; try with_reducible rfl)); (try simp only [List.getElem_toArray, List.getElem_cons_zero, List.getElem_cons_succ]); (try simp only [Act.put, List.setIfInBounds_toArray, List.set_cons_zero, List.set_cons_succ])
      (refine wpAnyH_take (i := 12) (v := ?_) rfl (by kernel_rfl) (by kernel_rfl) (by kernel_rfl) (fun _ _ _ h => h) (Or.inl ⟨by rfl, ?_⟩) (by assumption) ?_; rotate_left; focus (intro w hSw; (try dsimp only at hSw); (try simp only [List.getElem_toArray, List.getElem_cons_zero, List.getElem_cons_succ]); go_simp; try with_reducible rfl)); (try simp only [List.getElem_toArray, List.getElem_cons_zero, List.getElem_cons_succ]); (try simp only [Act.put, List.setIfInBounds_toArray, List.set_cons_zero, List.set_cons_succ])
      (refine wpAnyH_take (i := 13) (v := ?_) rfl (by kernel_rfl) (by kernel_rfl) (by kernel_rfl) (fun _ _ _ h => h) (Or.inl ⟨by rfl, ?_⟩) (by assumption) ?_; rotate_left; focus (intro w hSw; (try dsimp only at hSw); (try simp only [List.getElem_toArray, List.getElem_cons_zero, List.getElem_cons_succ]); go_simp; try with_reducible rfl)); (try simp only [List.getElem_toArray, List.getElem_cons_zero, List.getElem_cons_succ]); (try simp only [Act.put, List.setIfInBounds_toArray, List.set_cons_zero, List.set_cons_succ])
      (refine wpAnyH_take (i := 14) (v := ?_) rfl (by kernel_rfl) (by kernel_rfl) (by kernel_rfl) (fun _ _ _ h => h) (Or.inl ⟨by rfl, ?_⟩) (by assumption) ?_; rotate_left; focus (intro w hSw; (try dsimp only at hSw); (try simp only [List.getElem_toArray, List.getElem_cons_zero, List.getElem_cons_succ]); go_simp; try with_reducible rfl)); (try simp only [List.getElem_toArray, List.getElem_cons_zero, List.getElem_cons_succ]); (try simp only [Act.put, List.setIfInBounds_toArray, List.set_cons_zero, List.set_cons_succ])
      (refine wpAnyH_take (i := 15) (v := ?_) rfl (by kernel_rfl) (by kernel_rfl) (by kernel_rfl) (fun _ _ _ h => h) (Or.inl ⟨by rfl, ?_⟩) (by assumption) ?_; rotate_left; focus (intro w hSw; (try dsimp only at hSw); (try simp only [List.getElem_toArray, List.getElem_cons_zero, List.getElem_cons_succ]); go_simp; try with_reducible rfl)); (try simp only [List.getElem_toArray, List.getElem_cons_zero, List.getElem_cons_succ]); (try simp only [Act.put, List.setIfInBounds_toArray, List.set_cons_zero, List.set_cons_succ])
      (refine wpAnyH_take (i := 16) (v := ?_) rfl (by kernel_rfl) (by kernel_rfl) (by kernel_rfl) (fun _ _ _ h => h) (Or.inl ⟨by rfl, ?_⟩) (by assumption) ?_; rotate_left; focus (intro w hSw; (try dsimp only at hSw); (try simp only [List.getElem_toArray, List.getElem_cons_zero, List.getElem_cons_succ]); go_simp; try with_reducible rfl)); (try simp only [List.getElem_toArray, List.getElem_cons_zero, List.getElem_cons_succ]); (try simp only [Act.put, List.setIfInBounds_toArray, List.set_cons_zero, List.set_cons_succ])
      (refine wpAnyH_take (i := 17) (v := ?_) rfl (by kernel_rfl) (by kernel_rfl) (by kernel_rfl) (fun _ _ _ h => h) (Or.inl ⟨by rfl, ?_⟩) (by assumption) ?_; rotate_left; focus (intro w hSw; (try dsimp only at hSw); (try simp only [List.getElem_toArray, List.getElem_cons_zero, List.getElem_cons_succ]); go_simp; try with_reducible rfl)); (try simp only [List.getElem_toArray, List.getElem_cons_zero, List.getElem_cons_succ]); (try simp only [Act.put, List.setIfInBounds_toArray, List.set_cons_zero, List.set_cons_succ])
      (refine wpAnyH_take (i := 18) (v := ?_) rfl (by kernel_rfl) (by kernel_rfl) (by kernel_rfl) (fun _ _ _ h => h) (Or.inl ⟨by rfl, ?_⟩) (by assumption) ?_; rotate_left; focus (intro w hSw; (try dsimp only at hSw); (try simp only [List.getElem_toArray, List.getElem_cons_zero, List.getElem_cons_succ]); go_simp; try with_reducible rfl)); (try simp only [List.getElem_toArray, List.getElem_cons_zero, List.getElem_cons_succ]); (try simp only [Act.put, List.setIfInBounds_toArray, List.set_cons_zero, List.set_cons_succ])
      (refine wpAnyH_take (i := 19) (v := ?_) rfl (by kernel_rfl) (by kernel_rfl) (by kernel_rfl) (fun _ _ _ h => h) (Or.inl ⟨by rfl, ?_⟩) (by assumption) ?_; rotate_left; focus (intro w hSw; (try dsimp only at hSw); (try simp only [List.getElem_toArray, List.getElem_cons_zero, List.getElem_cons_succ]); go_simp; try with_reducible rfl)); (try simp only [List.getElem_toArray, List.getElem_cons_zero, List.getElem_cons_succ]); (try simp only [Act.put, List.setIfInBounds_toArray, List.set_cons_zero, List.set_cons_succ])
      (refine wpAnyH_take (i := 20) (v := ?_) rfl (by kernel_rfl) (by kernel_rfl) (by kernel_rfl) (fun _ _ _ h => h) (Or.inl ⟨by rfl, ?_⟩) (by assumption) ?_; rotate_left; focus (intro w hSw; (try dsimp only at hSw); (try simp only [List.getElem_toArray, List.getElem_cons_zero, List.getElem_cons_succ]); go_simp; try with_reducible rfl)); (try simp only [List.getElem_toArray, List.getElem_cons_zero, List.getElem_cons_succ]); (try simp only [Act.put, List.setIfInBounds_toArray, List.set_cons_zero, List.set_cons_succ])
      (refine wpAnyH_take (i := 21) rfl (by kernel_rfl) (by kernel_rfl) (by kernel_rfl) (fun _ _ _ h => h) (Or.inr ⟨by rfl, rfl⟩) (by assumption) ?_); (try simp only [List.getElem_toArray, List.getElem_cons_zero, List.getElem_cons_succ]); (try simp only [Act.put, List.setIfInBounds_toArray, List.set_cons_zero, List.set_cons_succ])
      (refine wpAnyH_take (i := 22) rfl (by kernel_rfl) (by kernel_rfl) (by kernel_rfl) (fun _ _ _ h => h) (Or.inr ⟨by rfl, rfl⟩) (by assumption) ?_); (try simp only [List.getElem_toArray, List.getElem_cons_zero, List.getElem_cons_succ]); (try simp only [Act.put, List.setIfInBounds_toArray, List.set_cons_zero, List.set_cons_succ])
      (refine wpAnyH_take (i := 23) rfl (by kernel_rfl) (by kernel_rfl) (by kernel_rfl) (fun _ _ _ h => h) (Or.inr ⟨by rfl, rfl⟩) (by assumption) ?_); (try simp only [List.getElem_toArray, List.getElem_cons_zero, List.getElem_cons_succ]); (try simp only [Act.put, List.setIfInBounds_toArray, List.set_cons_zero, List.set_cons_succ])
      (refine wpAnyH_take (i := 24) (v := ?_) rfl (by kernel_rfl) (by kernel_rfl) (by kernel_rfl) (fun _ _ _ h => h) (Or.inl ⟨by rfl, ?_⟩) (by assumption) ?_; rotate_left; focus (intro w hSw; (try dsimp only at hSw); (try simp only [List.getElem_toArray, List.getElem_cons_zero, List.getElem_cons_succ]); go_simp; try with_reducible rfl)); (try simp only [List.getElem_toArray, List.getElem_cons_zero, List.getElem_cons_succ]); (try simp only [Act.put, List.setIfInBounds_toArray, List.set_cons_zero, List.set_cons_succ])
      (refine wpAnyH_take (i := 25) (v := ?_) rfl (by kernel_rfl) (by kernel_rfl) (by kernel_rfl) (fun _ _ _ h => h) (Or.inl ⟨by rfl, ?_⟩) (by assumption) ?_; rotate_left; focus (intro w hSw; (try dsimp only at hSw); (try simp only [List.getElem_toArray, List.getElem_cons_zero, List.getElem_cons_succ]); go_simp; try with_reducible rfl)); (try simp only [List.getElem_toArray, List.getElem_cons_zero, List.getElem_cons_succ]); (try simp only [Act.put, List.setIfInBounds_toArray, List.set_cons_zero, List.set_cons_succ])
      (refine wpAnyH_take (i := 26) (v := ?_) rfl (by kernel_rfl) (by kernel_rfl) (by kernel_rfl) (fun _ _ _ h => h) (Or.inl ⟨by rfl, ?_⟩) (by assumption) ?_; rotate_left; focus (intro w hSw; (try dsimp only at hSw); (try simp only [List.getElem_toArray, List.getElem_cons_zero, List.getElem_cons_succ]); go_simp; try with_reducible rfl)); (try simp only [List.getElem_toArray, List.getElem_cons_zero, List.getElem_cons_succ]); (try simp only [Act.put, List.setIfInBounds_toArray, List.set_cons_zero, List.set_cons_succ])
      refine wpAnyH_done (by kernel_rfl) ?_ _
      go_wp2
      go_ret
      exact ⟨rfl, X0⟩
    · (refine wpAnyH_take (i := 10) (v := ?_) rfl (by kernel_rfl) (by kernel_rfl) (by kernel_rfl) (fun _ _ _ h => h) (Or.inl ⟨by rfl, ?_⟩) (by assumption) ?_; rotate_left; focus (intro w hSw; (try dsimp only at hSw); (try simp only [List.getElem_toArray, List.getElem_cons_zero, List.getElem_cons_succ]); go_simp; try with_reducible rfl)); (try simp only [List.getElem_toArray, List.getElem_cons_zero, List.getElem_cons_succ]); (try simp only [Act.put, List.setIfInBounds_toArray, List.set_cons_zero, List.set_cons_succ])
      (refine wpAnyH_take (i := 11) (v := ?_) rfl (by kernel_rfl) (by kernel_rfl) (by kernel_rfl) (fun _ _ _ h => h) (Or.inl ⟨by rfl, ?_⟩) (by assumption) ?_; rotate_left; focus (intro w hSw; (try dsimp only at hSw); (try simp only [List.getElem_toArray, List.getElem_cons_zero, List.getElem_cons_succ]); go_simp; try with_reducible rfl)); (try simp only [List.getElem_toArray, List.getElem_cons_zero, List.getElem_cons_succ]); (try simp only [Act.put, List.setIfInBounds_toArray, List.set_cons_zero, List.set_cons_succ])
      (refine wpAnyH_take (i := 12) (v := ?_) rfl (by kernel_rfl) (by kernel_rfl) (by kernel_rfl) (fun _ _ _ h => h) (Or.inl ⟨by rfl, ?_⟩) (by assumption) ?_; rotate_left; focus (intro w hSw; (try dsimp only at hSw); (try simp only [List.getElem_toArray, List.getElem_cons_zero, List.getElem_cons_succ]); go_simp; try with_reducible rfl)); (try simp only [List.getElem_toArray, List.getElem_cons_zero, List.getElem_cons_succ]); (try simp only [Act.put, List.setIfInBounds_toArray, List.set_cons_zero, List.set_cons_succ])
      (refine wpAnyH_take (i := 13) (v := ?_) rfl (by kernel_rfl) (by kernel_rfl) (by kernel_rfl) (fun _ _ _ h => h) (Or.inl ⟨by rfl, ?_⟩) (by assumption) ?_; rotate_left; focus (intro w hSw; (try dsimp only at hSw); (try simp only [List.getElem_toArray, List.getElem_cons_zero, List.getElem_cons_succ]); go_simp; try with_reducible rfl)); (try simp only [List.getElem_toArray, List.getElem_cons_zero, List.getElem_cons_succ]); (try simp only [Act.put, List.setIfInBounds_toArray, List.set_cons_zero, List.set_cons_succ])
      (refine wpAnyH_take (i := 14) (v := ?_) rfl (by kernel_rfl) (by kernel_rfl) (by kernel_rfl) (fun _ _ _ h => h) (Or.inl ⟨by rfl, ?_⟩) (by assumption) ?_; rotate_left; focus (intro w hSw; (try dsimp only at hSw); (try simp only [List.getElem_toArray, List.getElem_cons_zero, List.getElem_cons_succ]); go_simp; try with_reducible rfl)); (try simp only [List.getElem_toArray, List.getElem_cons_zero, List.getElem_cons_succ]); (try simp only [Act.put, List.setIfInBounds_toArray, List.set_cons_zero, List.set_cons_succ])
      (refine wpAnyH_take (i := 15) (v := ?_) rfl (by kernel_rfl) (by kernel_rfl) (by kernel_rfl) (fun _ _ _ h => h) (Or.inl ⟨by rfl, ?_⟩) (by assumption) ?_; rotate_left; focus (intro w hSw; (try dsimp only at hSw); (try simp only [List.getElem_toArray, List.getElem_cons_zero, List.getElem_cons_succ]); go_simp; try with_reducible rfl)); (try simp only [List.getElem_toArray, List.getElem_cons_zero, List.getElem_cons_succ]); (try simp only [Act.put, List.setIfInBounds_toArray, List.set_cons_zero, List.set_cons_succ])
      (refine wpAnyH_take (i := 16) (v := ?_) rfl (by kernel_rfl) (by kernel_rfl) (by kernel_rfl) (fun _ _ _ h => h) (Or.inl ⟨by rfl, ?_⟩) (by assumption) ?_; rotate_left; focus (intro w hSw; (try dsimp only at hSw); (try simp only [List.getElem_toArray, List.getElem_cons_zero, List.getElem_cons_succ]); go_simp; try with_reducible rfl)); (try simp only [List.getElem_toArray, List.getElem_cons_zero, List.getElem_cons_succ]); (try simp only [Act.put, List.setIfInBounds_toArray, List.set_cons_zero, List.set_cons_succ])
      (refine wpAnyH_take (i := 17) (v := ?_) rfl (by kernel_rfl) (by kernel_rfl) (by kernel_rfl) (fun _ _ _ h => h) (Or.inl ⟨by rfl, ?_⟩) (by assumption) ?_; rotate_left; focus (intro w hSw; (try dsimp only at hSw); (try simp only [List.getElem_toArray, List.getElem_cons_zero, List.getElem_cons_succ]); go_simp; try with_reducible rfl)); (try simp only [List.getElem_toArray, List.getElem_cons_zero, List.getElem_cons_succ]); (try simp only [Act.put, List.setIfInBounds_toArray, List.set_cons_zero, List.set_cons_succ])
      (refine wpAnyH_take (i := 18) (v := ?_) rfl (by kernel_rfl) (by kernel_rfl) (by kernel_rfl) (fun _ _ _ h => h) (Or.inl ⟨by rfl, ?_⟩) (by assumption) ?_; rotate_left; focus (intro w hSw; (try dsimp only at hSw); (try simp only [List.getElem_toArray, List.getElem_cons_zero, List.getElem_cons_succ]); go_simp; try with_reducible rfl)); (try simp only [List.getElem_toArray, List.getElem_cons_zero, List.getElem_cons_succ]); (try simp only [Act.put, List.setIfInBounds_toArray, List.set_cons_zero, List.set_cons_succ])
      (refine wpAnyH_take (i := 19) (v := ?_) rfl (by kernel_rfl) (by kernel_rfl) (by kernel_rfl) (fun _ _ _ h => h) (Or.inl ⟨by rfl, ?_⟩) (by assumption) ?_; rotate_left; focus (intro w hSw; (try dsimp only at hSw); (try simp only [List.getElem_toArray, List.getElem_cons_zero, List.getElem_cons_succ]); go_simp; try with_reducible rfl)); (try simp only [List.getElem_toArray, List.getElem_cons_zero, List.getElem_cons_succ]); (try simp only [Act.put, List.setIfInBounds_toArray, List.set_cons_zero, List.set_cons_succ])
      (refine wpAnyH_take (i := 20) (v := ?_) rfl (by kernel_rfl) (by kernel_rfl) (by kernel_rfl) (fun _ _ _ h => h) (Or.inl ⟨by rfl, ?_⟩) (by assumption) ?_; rotate_left; focus (intro w hSw; (try dsimp only at hSw); (try simp only [List.getElem_toArray, List.getElem_cons_zero, List.getElem_cons_succ]); go_simp; try with_reducible rfl)); (try simp only [List.getElem_toArray, List.getElem_cons_zero, List.getElem_cons_succ]); (try simp only [Act.put, List.setIfInBounds_toArray, List.set_cons_zero, List.set_cons_succ])
      obtain rfl := HAG.out rfl
      (refine wpAnyH_take (i := 21) (v := ?_) rfl (by kernel_rfl) (by kernel_rfl) (by kernel_rfl) (fun _ _ _ h => h) (Or.inl ⟨by rfl, ?_⟩) (by assumption) ?_; rotate_left; focus (intro w hSw; (try dsimp only at hSw); (try simp only [List.getElem_toArray, List.getElem_cons_zero, List.getElem_cons_succ]); go_simp; try with_reducible rfl)); (try simp only [List.getElem_toArray, List.getElem_cons_zero, List.getElem_cons_succ]); (try simp only [Act.put, List.setIfInBounds_toArray, List.set_cons_zero, List.set_cons_succ])
      (refine wpAnyH_take (i := 22) (v := ?_) rfl (by kernel_rfl) (by kernel_rfl) (by kernel_rfl) (fun _ _ _ h => h) (Or.inl ⟨by rfl, ?_⟩) (by assumption) ?_; rotate_left; focus (intro w hSw; (try dsimp only at hSw); (try simp only [List.getElem_toArray, List.getElem_cons_zero, List.getElem_cons_succ]); go_simp; try with_reducible rfl)); (try simp only [List.getElem_toArray, List.getElem_cons_zero, List.getElem_cons_succ]); (try simp only [Act.put, List.setIfInBounds_toArray, List.set_cons_zero, List.set_cons_succ])
      (refine wpAnyH_take (i := 23) (v := .bool true) rfl (by kernel_rfl) (by kernel_rfl) (by kernel_rfl) (fun _ _ _ h => h) (Or.inl ⟨by rfl, ?_⟩) (by assumption) ?_; focus (intro w hSw; (try dsimp only at hSw); (try simp only [List.getElem_toArray, List.getElem_cons_zero, List.getElem_cons_succ]); go_simp; (try simp))); (try simp only [List.getElem_toArray, List.getElem_cons_zero, List.getElem_cons_succ]); (try simp only [Act.put, List.setIfInBounds_toArray, List.set_cons_zero, List.set_cons_succ])
      (refine wpAnyH_take (i := 24) (v := ?_) rfl (by kernel_rfl) (by kernel_rfl) (by kernel_rfl) (fun _ _ _ h => h) (Or.inl ⟨by rfl, ?_⟩) (by assumption) ?_; rotate_left; focus (intro w hSw; (try dsimp only at hSw); (try simp only [List.getElem_toArray, List.getElem_cons_zero, List.getElem_cons_succ]); go_simp; try with_reducible rfl)); (try simp only [List.getElem_toArray, List.getElem_cons_zero, List.getElem_cons_succ]); (try simp only [Act.put, List.setIfInBounds_toArray, List.set_cons_zero, List.set_cons_succ])
      (refine wpAnyH_take (i := 25) (v := ?_) rfl (by kernel_rfl) (by kernel_rfl) (by kernel_rfl) (fun _ _ _ h => h) (Or.inl ⟨by rfl, ?_⟩) (by assumption) ?_; rotate_left; focus (intro w hSw; (try dsimp only at hSw); (try simp only [List.getElem_toArray, List.getElem_cons_zero, List.getElem_cons_succ]); go_simp; try with_reducible rfl)); (try simp only [List.getElem_toArray, List.getElem_cons_zero, List.getElem_cons_succ]); (try simp only [Act.put, List.setIfInBounds_toArray, List.set_cons_zero, List.set_cons_succ])
      (refine wpAnyH_take (i := 26) (v := ?_) rfl (by kernel_rfl) (by kernel_rfl) (by kernel_rfl) (fun _ _ _ h => h) (Or.inl ⟨by rfl, ?_⟩) (by assumption) ?_; rotate_left; focus (intro w hSw; (try dsimp only at hSw); (try simp only [List.getElem_toArray, List.getElem_cons_zero, List.getElem_cons_succ]); go_simp; try with_reducible rfl)); (try simp only [List.getElem_toArray, List.getElem_cons_zero, List.getElem_cons_succ]); (try simp only [Act.put, List.setIfInBounds_toArray, List.set_cons_zero, List.set_cons_succ])
      refine wpAnyH_done (by kernel_rfl) ?_ _
      go_wp2
      go_ret
      exact ⟨rfl, X0⟩
end Go.Proofs.YtliebkhfddmhjaaDoor
namespace Go.Proofs.YtliebkhfddmhjaaDoor
open Go.ChangeShapes Go.WideShapes Go.ChangeAt Go.RowKit
open Go.ChangeMaps (open_string shut_string)
namespace FnSignsTurned
theorem own : ownKnob Tryd.prog.godebug = none := by kernel_rfl
theorem laidOut : laidOutB Tryd.prog = true := by kernel_rfl
theorem laid_met (os : Os) : laidMet Tryd.prog Rows.fnSignsTurnedRow.laid ((laidWorld os).forCall (fun _ _ => 0) ⟨#[], #[.slice none 0 0], []⟩).memory :=
  laidMet_of_run' 8 (by kernel_rfl) (by kernel_rfl)
theorem reads (os : Os) {H : Type} (enc : TypeId × Value → H) : ∃ x, DataW.whole enc Tryd.prog ((laidWorld os).forCall (fun _ _ => 0) ⟨#[], #[.slice none 0 0], []⟩).memory Tryd.f6.params.toList Rows.fnSignsTurnedSpec.vars false (#[.slice none 0 0] : Array Value).toList 8 = some x :=
  Option.isSome_iff_exists.1 (by kernel_rfl)
set_option maxRecDepth 100000 in
theorem lifted (os : Os) (started : os.Started) (H : Type) (enc : TypeId × Value → H) (I : Stop.Interp) :
    ReturnsInHanded {} Tryd.checked os 6 .any ((OpenSpec.ofChange Rows.fnSignsTurnedSpec).preRow enc Tryd.prog Tryd.f6 Rows.fnSignsTurnedRow.domain false Rows.fnSignsTurnedRow.laid) (((OpenSpec.ofChange Rows.fnSignsTurnedSpec).at I).post enc Tryd.prog Tryd.f6 false true false false) := by
  obtain ⟨x, hx⟩ := reads os enc
  refine returnsInHanded_of_row (C := Tryd.checked) (s := OpenSpec.ofChange Rows.fnSignsTurnedSpec) own started (by kernel_rfl) Tryd.func6
    (witness_row_at (enc := enc) (C := Tryd.checked) false (laidWorld os) #[.slice none 0 0] rfl (by kernel_rfl) (by kernel_rfl) (by kernel_rfl)
      (OpenSpec.preRow_of_cond 8 hx rfl (fun k hk => by cases hk) (by kernel_rfl) (laid_met os))) ?_
  intro W base args ds gs before hval0 hW _ _ _ hL _ _
  have hval : ∀ (j : Nat) t v, Tryd.f6.params[j]? = some t → args[j]? = some v → Value.okWide Tryd.prog W .any base t v := hval0
  have hW' := hW
  obtain ⟨p, q, hA0, hV, rfl, -, -⟩ := hW
  have hA : DataW.TrodAll enc Tryd.prog W 0 (fun _ => true) true Tryd.f6.params.toList args.toList ds p := hA0
  rw [Tryd.params6] at hA hval
  obtain ⟨v0, vs0, d0, ds0, p0, q0, hargs, rfl, rfl, h0, t0⟩ := trodAll_cons hA
  obtain ⟨rfl, rfl, rfl⟩ := trodAll_nil t0
  obtain rfl : args = #[v0] := by cases args; simp_all
  obtain ⟨g1, g2, rfl⟩ := trodVars_two hV
  obtain ⟨a0, len0, cap0, rfl⟩ := okWide_slice Tryd.underlying44 (hval 0 44 v0 rfl rfl)
  obtain ⟨xs0, hx0⟩ := rd_bytes (rd_arg (T := .sl (.int .u8)) (by kernel_rfl) h0)
  clear hA0 hval0
  refine (laws_FnSignsTurned _ xs0 W hx0 (tabs_of hL)).mono fun e W2 ⟨he, hx⟩ => ?_
  subst he
  exact ⟨_, rfl, post_lawV hW' rfl (by kernel_rfl) (by kernel_rfl) Tryd.underlying4 laidOut (by kernel_rfl) hx⟩
theorem said : Rows.FnSignsTurnedSaid :=
  OpenClaim.holds_of_cond 6 Tryd.f6 rfl rfl rfl rfl rfl rfl rfl ⟨rfl, rfl, rfl, rfl, rfl⟩ rfl rfl rfl rfl rfl (by kernel_rfl) Tryd.func6 (by kernel_rfl)
    (of_decide_eq_true (by kernel_rfl)) (by unfold Func.isWrapper; first | (rw [if_pos (by decide +kernel)]; kernel_rfl) | (rw [if_neg (by decide +kernel)]; exact ⟨rfl, rfl⟩))
    (fun os started H enc _ I => by rw [OpenClaim.pre_eq_preRow]; exact lifted os started H enc I)
theorem plain (f : FuncId) (fn : Func) (hf : Tryd.pinned.checked.prog.funcNamed "loop.example/g00284/laws.FnSignsTurned" = some f) (hfn : Tryd.pinned.checked.prog.funcs[f]? = some fn) :
    false = Tryd.pinned.checked.prog.looks [] ∧ ∀ (j : Nat) t, fn.params[j]? = some t → Tryd.pinned.checked.prog.wantsStandIn t = false := by
  obtain rfl : f = 6 := Option.some.inj ((show Tryd.prog.funcNamed "loop.example/g00284/laws.FnSignsTurned" = some 6 by kernel_rfl).symm.trans hf) |>.symm
  obtain rfl : fn = Tryd.f6 := (Option.some.inj (Tryd.func6.symm.trans hfn)).symm
  refine ⟨by kernel_rfl, fun j t ht => ?_⟩
  have hall : (Tryd.f6.params.toList.all fun u => !Tryd.prog.wantsStandIn u) = true := by kernel_rfl
  have hm : t ∈ Tryd.f6.params.toList := by simpa using Array.mem_of_getElem? ht
  exact (show Tryd.prog.wantsStandIn t = false by simpa using List.all_eq_true.1 hall t hm)
theorem proved : Rows.FnSignsTurnedCardSaid :=
  Claim7.holds_tied_plain_at .later [] _ _ _ _ said (fun _ h => by cases h) (by kernel_rfl) (fun _ h => by cases h) fnSignsTurned_row_tie rfl ⟨rfl, rfl⟩ (by kernel_rfl) rfl plain (by kernel_rfl)
#print axioms proved
end FnSignsTurned
end Go.Proofs.YtliebkhfddmhjaaDoor
