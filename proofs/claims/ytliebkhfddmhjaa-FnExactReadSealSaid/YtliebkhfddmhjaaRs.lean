/- Signatures read: ReadSig, both sides. -/
import Derived.Test.YtliebkhfddmhjaaRd
namespace Go.Proofs.Ytliebkhfddmhjaa
open Go.RowKit

theorem rdSigV_no {t : ByteArray} (h : rdSig t = false) : rdSigV t = ⟨0, [], [], []⟩ := by rw [rdSigV, if_neg (by rw [h]; decide)]
theorem rdSigV_yes {t : ByteArray} (h : rdSig t = true) : rdSigV t = rsV t 0 := by rw [rdSigV, if_pos h]
theorem rdSig_two (t : ByteArray) : (doneB t (sgS4 t 0 false).1 (sgS4 t 0 false).2 && sigWell (sgRd t 0 false)) = rdSig t := by rw [doneB]; exact rdSig_eq t
theorem rdSig_rd {t : ByteArray} (h : rdSig t = true) : rdSigV t = sgRd t 0 false := by
  rw [rdSigV_yes h]
  rw [rdSig, Bool.and_eq_true, decide_eq_true_eq] at h
  exact (sgRd_yes (t := t) (a := 0) (by omega)).1.symm
set_option maxRecDepth 100000 in
set_option maxHeartbeats 3200000 in
theorem spec_ReadSig (t : ByteArray) (w : World) (hs : t.size ≤ 1099511627776) :
    Calls Try.prog 24 #[.string t] w fun e w' => ∃ a1 c1 a2 c2 a3 c3, e = .returned (.tuple #[.agg #[.int .i64 (rdSigV t).at_, .slice a1 (rdSigV t).op.length c1, .slice a2 (rdSigV t).sh.length c2, .slice a3 (rdSigV t).si.length c3], .bool (rdSig t)]) ∧ SigOwn w' w.heap.size (.slice a1 (rdSigV t).op.length c1) (.slice a2 (rdSigV t).sh.length c2) (.slice a3 (rdSigV t).si.length c3) (rdSigV t) ∧ Ext w w' := by
  by_cases h1 : t.size = 321
  case neg =>
    have hn : rdSig t = false := by rw [rdSig, decide_eq_false h1]; rfl
    have HN := Lib.hid hn
    have HV := Lib.hid (rdSigV_no hn)
    have hb : ((t.size : Int) != 321) = true := by simp; omega
    clear hn h1
    have X : Ext w (w.alloc (Obj.cells #[.int .i64 0, .slice none 0 0, .slice none 0 0, .slice none 0 0] 26)) := (Ext.refl w).alloc _
    go_enter Try.func24, Try.ntmps24
    go_wp2
    refine bodyPost_ret (v := .tuple #[.agg #[.int .i64 0, .slice none 0 0, .slice none 0 0, .slice none 0 0], .bool false]) (by simp [results, Try.results24, go_sem]) rfl ?_
    rw [HV.out, HN.out]
    exact ⟨none, 0, none, 0, none, 0, rfl, sigOwn_nil _ _, X⟩
  have hb : ((t.size : Int) != 321) = false := by simp; omega
  have hlt : 0 < t.size := by omega
  have hi0 : (0 : Int) < t.size := by omega
  have hw := wrap64_byte (t[0])
  have h256 := (t[0]).toNat_lt
  have ho : oneOf t 0 false = ((t[0]).toNat : Int) := by have h : (false = false ∧ (0 : Int) ≤ (0 : Int) ∧ (0 : Int).toNat < t.size) := ⟨rfl, by omega, hlt⟩; rw [oneOf, dif_pos h]; rfl
  have X : Ext w (w.alloc (Obj.cells #[.int .i64 0, .slice none 0 0, .slice none 0 0, .slice none 0 0] 26)) := (Ext.refl w).alloc _
  have hr : rdSig t = decide ((t[0]).toNat ≤ 15) := by rw [rdSig, ho, decide_eq_true h1, Bool.eq_iff_iff]; simp; omega
  by_cases h16 : (t[0]).toNat ≤ 15
  case neg =>
    rw [decide_eq_false h16] at hr
    have HN := Lib.hid hr
    have HV := Lib.hid (rdSigV_no hr)
    have h17 : (16 : Int) ≤ (t[0]).toNat := by omega
    clear hr ho h1 h16
    go_enter Try.func24, Try.ntmps24
    go_wp2
    refine bodyPost_ret (v := .tuple #[.agg #[.int .i64 0, .slice none 0 0, .slice none 0 0, .slice none 0 0], .bool false]) (by simp [results, Try.results24, go_sem]) rfl ?_
    rw [HV.out, HN.out]
    exact ⟨none, 0, none, 0, none, 0, rfl, sigOwn_nil _ _, X⟩
  rw [decide_eq_true h16] at hr
  have HN := Lib.hid hr
  have HO := Lib.hid ho
  have h17 : ((t[0]).toNat : Int) < 16 := by omega
  have HV := Lib.hid (show rdSigV t = ⟨((t[0]).toNat : Int), cutL t 1 8, cutL t 129 8, cutL t 257 4⟩ by rw [rdSigV_yes hr, rsV, show ((0 : Nat) : Int) = 0 from rfl, ho])
  clear hr ho h16
  have H1 := Lib.hid h1
  go_enter Try.func24, Try.ntmps24
  go_wp2_with fail
  have X1 : Ext w ((w.alloc (Obj.cells #[.int .i64 0, .slice none 0 0, .slice none 0 0, .slice none 0 0] 26)).alloc (Obj.cells #[.int .i64 ((t[0]).toNat : Int), .slice none 0 0, .slice none 0 0, .slice none 0 0] 26)) := X.alloc _
  have R : Bx ((w.alloc (Obj.cells #[.int .i64 0, .slice none 0 0, .slice none 0 0, .slice none 0 0] 26)).alloc (Obj.cells #[.int .i64 ((t[0]).toNat : Int), .slice none 0 0, .slice none 0 0, .slice none 0 0] 26)) w.heap.size [.int .i64 0, .slice none 0 0, .slice none 0 0, .slice none 0 0] := (Bx.new w _ _).ext ((Ext.refl _).alloc _)
  have Q : Bx ((w.alloc (Obj.cells #[.int .i64 0, .slice none 0 0, .slice none 0 0, .slice none 0 0] 26)).alloc (Obj.cells #[.int .i64 ((t[0]).toNat : Int), .slice none 0 0, .slice none 0 0, .slice none 0 0] 26)) (w.heap.size + 1) [.int .i64 ((t[0]).toNat : Int), .slice none 0 0, .slice none 0 0, .slice none 0 0] := by have e := Bx.new (w.alloc (Obj.cells #[.int .i64 0, .slice none 0 0, .slice none 0 0, .slice none 0 0] 26)) #[.int .i64 ((t[0]).toNat : Int), .slice none 0 0, .slice none 0 0, .slice none 0 0] 26; rw [World.size_alloc] at e; exact e
  generalize (w.alloc (Obj.cells #[.int .i64 0, .slice none 0 0, .slice none 0 0, .slice none 0 0] 26)).alloc (Obj.cells #[.int .i64 ((t[0]).toNat : Int), .slice none 0 0, .slice none 0 0, .slice none 0 0] 26) = W1 at *
  clear X
  refine (spec_l05Cut t 1 8 _ (by have := H1.out; omega) (by decide) hs).mono ?_
  generalize cutL t 1 8 = l1 at *
  rintro e w2 ⟨a1, c1, rfl, o1, x1⟩
  have b1 := Q.1
  replace o1 := own_mono (b' := w.heap.size + 2) o1 (by omega)
  replace R := R.ext x1
  replace Q := Q.ext x1
  replace X1 := X1.trans x1
  have qc := Q.2.1 1 _ rfl
  have qf := Q.2.2 1
  have QF := Q.set 1 (.slice a1 l1.length c1) (by simp)
  have RF := R.far (c := w.heap.size + 1) (by omega) 1 (.slice a1 l1.length c1)
  have XF : Ext w (w2.setCell ⟨w.heap.size + 1, 1, none⟩ (.slice a1 l1.length c1)) := X1.setCell (by dsimp only; omega) _
  clear Q R X1
  have Q := QF
  have R := RF
  have X1 := XF
  clear QF RF XF
  replace o1 := own_set (b := w.heap.size + 1) (o := 1) o1 (by omega) (.slice a1 l1.length c1)
  go_wp2_with fail
  generalize w2.setCell ⟨w.heap.size + 1, 1, none⟩ (.slice a1 l1.length c1) = U1 at *
  clear qc qf
  refine (spec_l05Cut t 129 8 _ (by have := H1.out; omega) (by decide) hs).mono ?_
  generalize cutL t 129 8 = l2 at *
  rintro e w3 ⟨a2, c2, rfl, o2, x2⟩
  have b2 := Q.1
  have f12 : Off (.slice a1 l1.length c1) (.slice a2 l2.length c2) := off_new o1 o2 (Nat.le_refl _)
  replace o1 := own_ext o1 x2
  replace o2 := own_mono (b' := w.heap.size + 2) o2 (by omega)
  replace R := R.ext x2
  replace Q := Q.ext x2
  replace X1 := X1.trans x2
  have qc := Q.2.1 2 _ rfl
  have qf := Q.2.2 2
  have QF := Q.set 2 (.slice a2 l2.length c2) (by simp)
  have RF := R.far (c := w.heap.size + 1) (by omega) 2 (.slice a2 l2.length c2)
  have XF : Ext w (w3.setCell ⟨w.heap.size + 1, 2, none⟩ (.slice a2 l2.length c2)) := X1.setCell (by dsimp only; omega) _
  clear Q R X1
  have Q := QF
  have R := RF
  have X1 := XF
  clear QF RF XF
  replace o1 := own_set (b := w.heap.size + 1) (o := 2) o1 (by omega) (.slice a2 l2.length c2)
  replace o2 := own_set (b := w.heap.size + 1) (o := 2) o2 (by omega) (.slice a2 l2.length c2)
  go_wp2_with fail
  generalize w3.setCell ⟨w.heap.size + 1, 2, none⟩ (.slice a2 l2.length c2) = U2 at *
  clear qc qf
  refine (spec_l05Cut t 257 4 _ (by have := H1.out; omega) (by decide) hs).mono ?_
  generalize cutL t 257 4 = l3 at *
  rintro e w4 ⟨a3, c3, rfl, o3, x3⟩
  have b3 := Q.1
  have f13 : Off (.slice a1 l1.length c1) (.slice a3 l3.length c3) := off_new o1 o3 (Nat.le_refl _)
  have f23 : Off (.slice a2 l2.length c2) (.slice a3 l3.length c3) := off_new o2 o3 (Nat.le_refl _)
  replace o1 := own_ext o1 x3
  replace o2 := own_ext o2 x3
  replace o3 := own_mono (b' := w.heap.size + 2) o3 (by omega)
  replace R := R.ext x3
  replace Q := Q.ext x3
  replace X1 := X1.trans x3
  have qc := Q.2.1 3 _ rfl
  have qf := Q.2.2 3
  have QF := Q.set 3 (.slice a3 l3.length c3) (by simp)
  have RF := R.far (c := w.heap.size + 1) (by omega) 3 (.slice a3 l3.length c3)
  have XF : Ext w (w4.setCell ⟨w.heap.size + 1, 3, none⟩ (.slice a3 l3.length c3)) := X1.setCell (by dsimp only; omega) _
  replace o1 := own_set (b := w.heap.size + 1) (o := 3) o1 (by omega) (.slice a3 l3.length c3)
  replace o2 := own_set (b := w.heap.size + 1) (o := 3) o2 (by omega) (.slice a3 l3.length c3)
  replace o3 := own_set (b := w.heap.size + 1) (o := 3) o3 (by omega) (.slice a3 l3.length c3)
  have q0c := Q.2.1 0 _ rfl
  have q1c := Q.2.1 1 _ rfl
  have q2c := Q.2.1 2 _ rfl
  have z0 := R.2.1 0 _ rfl
  have z1 := R.2.1 1 _ rfl
  have z2 := R.2.1 2 _ rfl
  have z3 := R.2.1 3 _ rfl
  have zf0 := R.2.2 0
  have zf1 := R.2.2 1
  have zf2 := R.2.2 2
  have zf3 := R.2.2 3
  have RR := ((((RF.set 0 (.int .i64 ((t[0]).toNat : Int)) (by simp)).set 1 (.slice a1 l1.length c1) (by simp)).set 2 (.slice a2 l2.length c2) (by simp)).set 3 (.slice a3 l3.length c3) (by simp))
  have XX : Ext w (((((w4.setCell ⟨w.heap.size + 1, 3, none⟩ (.slice a3 l3.length c3)).setCell ⟨w.heap.size, 0, none⟩ (.int .i64 ((t[0]).toNat : Int))).setCell ⟨w.heap.size, 1, none⟩ (.slice a1 l1.length c1)).setCell ⟨w.heap.size, 2, none⟩ (.slice a2 l2.length c2)).setCell ⟨w.heap.size, 3, none⟩ (.slice a3 l3.length c3)) := ((((XF.setCell (Nat.le_refl _) _).setCell (Nat.le_refl _) _).setCell (Nat.le_refl _) _).setCell (Nat.le_refl _) _)
  have p1 := (own_set (b := w.heap.size) (o := 3) (own_set (b := w.heap.size) (o := 2) (own_set (b := w.heap.size) (o := 1) (own_set (b := w.heap.size) (o := 0) o1 (by omega) (.int .i64 ((t[0]).toNat : Int))) (by omega) (.slice a1 l1.length c1)) (by omega) (.slice a2 l2.length c2)) (by omega) (.slice a3 l3.length c3))
  have p2 := (own_set (b := w.heap.size) (o := 3) (own_set (b := w.heap.size) (o := 2) (own_set (b := w.heap.size) (o := 1) (own_set (b := w.heap.size) (o := 0) o2 (by omega) (.int .i64 ((t[0]).toNat : Int))) (by omega) (.slice a1 l1.length c1)) (by omega) (.slice a2 l2.length c2)) (by omega) (.slice a3 l3.length c3))
  have p3 := (own_set (b := w.heap.size) (o := 3) (own_set (b := w.heap.size) (o := 2) (own_set (b := w.heap.size) (o := 1) (own_set (b := w.heap.size) (o := 0) o3 (by omega) (.int .i64 ((t[0]).toNat : Int))) (by omega) (.slice a1 l1.length c1)) (by omega) (.slice a2 l2.length c2)) (by omega) (.slice a3 l3.length c3))
  clear o1 o2 o3
  go_wp2
  generalize ((((w4.setCell ⟨w.heap.size + 1, 3, none⟩ (.slice a3 l3.length c3)).setCell ⟨w.heap.size, 0, none⟩ (.int .i64 ((t[0]).toNat : Int))).setCell ⟨w.heap.size, 1, none⟩ (.slice a1 l1.length c1)).setCell ⟨w.heap.size, 2, none⟩ (.slice a2 l2.length c2)).setCell ⟨w.heap.size, 3, none⟩ (.slice a3 l3.length c3) = WF at *
  clear qc qf q0c q1c q2c z0 z1 z2 z3 zf0 zf1 zf2 zf3
  have k0 := RR.2.1 0 _ rfl
  have k1 := RR.2.1 1 _ rfl
  have k2 := RR.2.1 2 _ rfl
  have k3 := RR.2.1 3 _ rfl
  refine bodyPost_ret (v := .tuple #[.agg #[.int .i64 ((t[0]).toNat : Int), .slice a1 l1.length c1, .slice a2 l2.length c2, .slice a3 l3.length c3], .bool true]) (by simp [results, Try.results24, go_sem, k0, k1, k2, k3]) rfl ?_
  rw [HV.out, HN.out]
  exact ⟨a1, c1, a2, c2, a3, c3, rfl, ⟨own_mono p1 (by omega), own_mono p2 (by omega), own_mono p3 (by omega), f12, f13, f23⟩, XX⟩
end Go.Proofs.Ytliebkhfddmhjaa
