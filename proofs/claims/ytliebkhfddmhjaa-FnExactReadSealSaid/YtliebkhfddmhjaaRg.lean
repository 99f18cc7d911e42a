/- Signed heads read: ReadSeal, both sides. -/
import Derived.Test.YtliebkhfddmhjaaRf
import Derived.Test.YtliebkhfddmhjaaHeadA
namespace Go.Proofs.Ytliebkhfddmhjaa
open Go.RowKit

theorem xt_size (t : ByteArray) (e : Nat) (h : e ≤ t.size) : (t.extract e t.size).size = t.size - e := by rw [ByteArray.size_extract]; omega
theorem xt_xt {t : ByteArray} {e i j : Nat} (h : e + j ≤ t.size) : (t.extract e t.size).extract i j = t.extract (e + i) (e + j) := by
  apply ba_ext
  rw [ba_extract, ba_extract, ba_extract, List.drop_take, List.drop_drop, List.take_take]
  congr 1
  omega
theorem one_xt {t : ByteArray} {e : Nat} (h : e < t.size) : oneOf (t.extract e t.size) 0 false = oneOf t e false := by
  have h1 := one_at t e h
  have h2 := one_at (t.extract e t.size) 0 (by rw [xt_size t e (by omega)]; omega)
  rw [show ((0 : Nat) : Int) = 0 from rfl] at h2
  rw [h1, h2, ba_extract]
  have hl : e < t.data.toList.length := by rw [ba_len]; exact h
  rw [List.drop_eq_getElem_cons hl, List.getD_eq_getElem?_getD, List.getD_eq_getElem?_getD, List.getElem?_eq_getElem hl]
  rw [show t.size - e = (t.size - e - 1) + 1 by omega, List.take_succ_cons]
  rfl
theorem rsV_xt {t : ByteArray} {e : Nat} (h : e + 321 ≤ t.size) : rsV (t.extract e t.size) 0 = rsV t e := by
  rw [rsV, rsV, show ((0 : Nat) : Int) = 0 from rfl, one_xt (by omega)]
  have hc : ∀ a n, a + n * 16 ≤ 321 → cutL (t.extract e t.size) (0 + a) n = cutL t (e + a) n := by
    intro a n hn
    rw [cutL, cutL]
    refine List.map_congr_left fun j hj => ?_
    rw [List.mem_range] at hj
    rw [xt_xt (by omega)]
    congr 1 <;> omega
  rw [hc 1 8 (by omega), hc 129 8 (by omega), hc 257 4 (by omega)]
theorem rdSig_xt {t : ByteArray} {e : Nat} (h : e ≤ t.size) : rdSig (t.extract e t.size) = (decide (e + 321 = t.size) && decide (oneOf t e false ≤ 15)) := by
  rw [rdSig, xt_size t e h]
  by_cases h2 : e + 321 = t.size
  · rw [decide_eq_true (by omega), decide_eq_true h2, one_xt (by omega)]
  · rw [decide_eq_false (by omega), decide_eq_false h2]; rfl
theorem shAt_yes {t : ByteArray} {a : Int} (h : rsOk t a = true) : shAt t a = rsE t a := by rw [shAt, if_pos h]
theorem shAt_no {t : ByteArray} {a : Int} (h : rsOk t a = false) : shAt t a = a := by rw [shAt, if_neg (by rw [h]; decide)]
/-- what the program's ReadSeal asks is what a signed head's text is -/
theorem se_done (t : ByteArray) : doneB t (sgS4 t (shAt t 0) (false || !rsOk t 0)).1 (badE (sgS4 t (shAt t 0) (false || !rsOk t 0)).2 (rdHead (rsT t 0)) (sgRd t (shAt t 0) (false || !rsOk t 0))) = seOk t := by
  cases hok : rsOk t 0
  · rw [shAt_no hok, seOk, hok]
    have hb : (sgS4 t 0 (false || !false)).2 = true := by
      cases hb : (sgS4 t 0 (false || !false)).2 with
      | true => rfl
      | false => have := (sgS4_false (t := t) (a := 0) (by omega) hb).1; simp at this
    rw [doneB, badE, hb]
    rfl
  · have he := rsE_bd t 0
    rw [shAt_yes hok, seOk, hok]
    generalize rsE t 0 = e at *
    cases hk : rdHead (rsT t 0)
    · rw [doneB, badE]; simp
    · have hle : e ≤ t.size := by omega
      rw [rdSig_xt hle]
      show doneB t (sgS4 t e false).1 (badE (sgS4 t e false).2 true (sgRd t e false)) = (true && (true && _))
      by_cases h : e + 321 ≤ t.size
      · obtain ⟨e1, e2⟩ := sgRd_yes h
        rw [e1, e2, doneB, badE, rsV_well h, Bool.eq_iff_iff]
        simp
        omega
      · have hb : (sgS4 t e false).2 = true := by
          cases hb : (sgS4 t e false).2 with
          | true => rfl
          | false => exact absurd (sgS4_false hle hb).2 h
        rw [doneB, badE, hb, decide_eq_false (show ¬ e + 321 = t.size by omega)]
        rfl
theorem se_val {t : ByteArray} (h : seOk t = true) : seI t = hdH (rsT t 0) ∧ seE t = hdE (rsT t 0) ∧ seR t = hdR (rsT t 0) ∧ seP t = hdP (rsT t 0) ∧ seV t = sgRd t (shAt t 0) (false || !rsOk t 0) := by
  obtain ⟨h1, h2, h3, h4, h5⟩ := se_yes h
  refine ⟨h1, h2, h3, h4, ?_⟩
  have h' := h
  rw [seOk, Bool.and_eq_true, Bool.and_eq_true] at h'
  obtain ⟨k1, k2, k3⟩ := h'
  have he := rsE_bd t 0
  rw [h5, k1, shAt_yes k1]
  have hle : rsE t 0 ≤ t.size := by omega
  have k3' := k3
  rw [rdSig_xt hle, Bool.and_eq_true, decide_eq_true_eq] at k3'
  rw [rdSigV_yes k3, rsV_xt (by omega)]
  exact (sgRd_yes (by omega)).1.symm
/-- the text of what was read is what was read -/
theorem se_text {t : ByteArray} (h : seOk t = true) : sealOk (seI t) (seE t) (seR t) (seP t) (seV t) = true ∧ sealT (seI t) (seE t) (seR t) (seP t) (seV t) = t := by
  obtain ⟨h1, h2, h3, h4, h5⟩ := se_yes h
  rw [seOk, Bool.and_eq_true, Bool.and_eq_true] at h
  obtain ⟨k1, k2, k3⟩ := h
  obtain ⟨b1, b2⟩ := text_back k2
  obtain ⟨c1, c2⟩ := rdSig_text k3
  rw [h1, h2, h3, h4, h5]
  have hs : sealOk (hdH (rsT t 0)) (hdE (rsT t 0)) (hdR (rsT t 0)) (hdP (rsT t 0)) (rdSigV (t.extract (rsE t 0) t.size)) = true := by rw [sealOk, b1, c1]; rfl
  refine ⟨hs, ?_⟩
  rw [sealT_yes hs, b2, c2]
  have hr := rs_text (t := t) (a := 0) k1
  rw [show ((0 : Nat) : Int) = 0 from rfl] at hr
  rw [← hr.1, xt_app (by omega) hr.2.2]
  exact xt_all t
set_option maxRecDepth 100000 in
set_option maxHeartbeats 3200000 in
theorem impl_ReadSeal (t : ByteArray) (w : World) (hs : t.size ≤ 1099511627776) :
    Calls Try.prog 7 #[.string t] w fun e w' => ∃ a1 c1 a2 c2 a3 c3, e = .returned (.tuple #[.agg #[.int .i64 (seI t), .int .i64 (seE t), .string (seR t), .string (seP t), .int .i64 (seV t).at_, .slice a1 (seV t).op.length c1, .slice a2 (seV t).sh.length c2, .slice a3 (seV t).si.length c3], .bool (seOk t)]) ∧ SigOwn w' w.heap.size (.slice a1 (seV t).op.length c1) (.slice a2 (seV t).sh.length c2) (.slice a3 (seV t).si.length c3) (seV t) ∧ Ext w w' := by
  have HNO := Lib.hid (fun h => se_no (t := t) h)
  have HYE := Lib.hid (fun h => se_val (t := t) h)
  have HDN := Lib.hid (se_done t)
  generalize seOk t = so at *
  generalize seI t = vi at *
  generalize seE t = ve at *
  generalize seR t = vr at *
  generalize seP t = vp at *
  generalize seV t = vs at *
  have x0 : Ext w ((w.alloc (Obj.cells #[.int .i64 0, .int .i64 0, .string ⟨#[]⟩, .string ⟨#[]⟩, .int .i64 0, .slice none 0 0, .slice none 0 0, .slice none 0 0] 28)).alloc (Obj.cells #[.string t, .int .i64 0, .bool false] 75)) := ((Ext.refl w).alloc _).alloc _
  have R : Bx ((w.alloc (Obj.cells #[.int .i64 0, .int .i64 0, .string ⟨#[]⟩, .string ⟨#[]⟩, .int .i64 0, .slice none 0 0, .slice none 0 0, .slice none 0 0] 28)).alloc (Obj.cells #[.string t, .int .i64 0, .bool false] 75)) w.heap.size [.int .i64 0, .int .i64 0, .string ⟨#[]⟩, .string ⟨#[]⟩, .int .i64 0, .slice none 0 0, .slice none 0 0, .slice none 0 0] := (Bx.new w _ _).ext ((Ext.refl _).alloc _)
  have B : Bx ((w.alloc (Obj.cells #[.int .i64 0, .int .i64 0, .string ⟨#[]⟩, .string ⟨#[]⟩, .int .i64 0, .slice none 0 0, .slice none 0 0, .slice none 0 0] 28)).alloc (Obj.cells #[.string t, .int .i64 0, .bool false] 75)) (w.heap.size + 1) [.string t, .int .i64 0, .bool false] := by have e := Bx.new (w.alloc (Obj.cells #[.int .i64 0, .int .i64 0, .string ⟨#[]⟩, .string ⟨#[]⟩, .int .i64 0, .slice none 0 0, .slice none 0 0, .slice none 0 0] 28)) #[.string t, .int .i64 0, .bool false] 75; rw [World.size_alloc] at e; exact e
  go_enter Try.func7, Try.ntmps7
  go_wp2_with fail
  generalize (w.alloc (Obj.cells #[.int .i64 0, .int .i64 0, .string ⟨#[]⟩, .string ⟨#[]⟩, .int .i64 0, .slice none 0 0, .slice none 0 0, .slice none 0 0] 28)).alloc (Obj.cells #[.string t, .int .i64 0, .bool false] 75) = W0 at *
  have F : Fld W0 (w.heap.size + 1) t 0 false := ⟨B.2.1 0 _ rfl, B.2.1 1 _ rfl, B.2.1 2 _ rfl, B.2.2⟩
  refine (impl_fields_seal (w.heap.size + 1) t 0 false _ F B.1 (by omega) hs).mono ?_
  generalize hdH (rsT t 0) = hh at *
  generalize hdE (rsT t 0) = he at *
  generalize hdR (rsT t 0) = hr at *
  generalize hdP (rsT t 0) = hp at *
  generalize sgRd t (shAt t 0) (false || !rsOk t 0) = S at *
  generalize sgS4 t (shAt t 0) (false || !rsOk t 0) = st at *
  generalize rdHead (rsT t 0) = rk at *
  generalize badE st.2 rk S = bd at *
  rintro e w1 ⟨a1, c1, a2, c2, a3, c3, rfl, so1, F1, M1⟩
  have R1 := R.mut M1 (by omega)
  have X1 : Ext w w1 := x0.mut M1 (by omega)
  have z1 := Nat.lt_of_lt_of_le B.1 M1.size
  have SO1 := so1.mono (show w.heap.size + 2 ≤ W0.heap.size from B.1)
  clear R F so1
  have e1 : Ext w1 (w1.alloc (Obj.cells #[.int .i64 hh, .int .i64 he, .string hr, .string hp, .int .i64 S.at_, .slice a1 S.op.length c1, .slice a2 S.sh.length c2, .slice a3 S.si.length c3] 28)) := (Ext.refl _).alloc _
  have Q := Bx.new w1 #[.int .i64 hh, .int .i64 he, .string hr, .string hp, .int .i64 S.at_, .slice a1 S.op.length c1, .slice a2 S.sh.length c2, .slice a3 S.si.length c3] 28
  have R := R1.ext e1
  have X := X1.trans e1
  have SO := SO1.ext e1
  have F2 := F1.ext z1 e1
  clear R1 X1 SO1 F1
  cases hk : doneB t st.1 bd
  · have HSO := Lib.hid (hk.symm.trans HDN.out)
    have HK := Lib.hid hk
    clear hk HDN
    have HV := Lib.hid (HNO.out HSO.out.symm)
    go_wp2_with fail
    generalize w1.alloc (Obj.cells #[.int .i64 hh, .int .i64 he, .string hr, .string hp, .int .i64 S.at_, .slice a1 S.op.length c1, .slice a2 S.sh.length c2, .slice a3 S.si.length c3] 28) = W2 at *
    refine (impl_fields_done _ t st.1 bd _ F2).mono ?_
    rw [HK.out]
    rintro e w3 ⟨rfl, x3⟩
    replace R := R.ext x3
    replace X := X.trans x3
    replace SO := SO.ext x3
    replace Q := Q.ext x3
    have z0 := R.2.1 0 _ rfl
    have z1 := R.2.1 1 _ rfl
    have z2 := R.2.1 2 _ rfl
    have z3 := R.2.1 3 _ rfl
    have z4 := R.2.1 4 _ rfl
    have z5 := R.2.1 5 _ rfl
    have z6 := R.2.1 6 _ rfl
    have z7 := R.2.1 7 _ rfl
    have f0 := R.2.2 0
    have f1 := R.2.2 1
    have f2 := R.2.2 2
    have f3 := R.2.2 3
    have f4 := R.2.2 4
    have f5 := R.2.2 5
    have f6 := R.2.2 6
    have f7 := R.2.2 7
    have XF : Ext w ((((((((w3.setCell ⟨w.heap.size, 0, none⟩ (.int .i64 0)).setCell ⟨w.heap.size, 1, none⟩ (.int .i64 0)).setCell ⟨w.heap.size, 2, none⟩ (.string ⟨#[]⟩)).setCell ⟨w.heap.size, 3, none⟩ (.string ⟨#[]⟩)).setCell ⟨w.heap.size, 4, none⟩ (.int .i64 0)).setCell ⟨w.heap.size, 5, none⟩ (.slice none 0 0)).setCell ⟨w.heap.size, 6, none⟩ (.slice none 0 0)).setCell ⟨w.heap.size, 7, none⟩ (.slice none 0 0)) := ((((((((X.setCell (by dsimp only; omega) _).setCell (by dsimp only; omega) _).setCell (by dsimp only; omega) _).setCell (by dsimp only; omega) _).setCell (by dsimp only; omega) _).setCell (by dsimp only; omega) _).setCell (by dsimp only; omega) _).setCell (by dsimp only; omega) _)
    have RF := ((((((((R.set 0 (.int .i64 0) (by simp)).set 1 (.int .i64 0) (by simp)).set 2 (.string ⟨#[]⟩) (by simp)).set 3 (.string ⟨#[]⟩) (by simp)).set 4 (.int .i64 0) (by simp)).set 5 (.slice none 0 0) (by simp)).set 6 (.slice none 0 0) (by simp)).set 7 (.slice none 0 0) (by simp))
    go_wp2
    generalize (((((((w3.setCell ⟨w.heap.size, 0, none⟩ (.int .i64 0)).setCell ⟨w.heap.size, 1, none⟩ (.int .i64 0)).setCell ⟨w.heap.size, 2, none⟩ (.string ⟨#[]⟩)).setCell ⟨w.heap.size, 3, none⟩ (.string ⟨#[]⟩)).setCell ⟨w.heap.size, 4, none⟩ (.int .i64 0)).setCell ⟨w.heap.size, 5, none⟩ (.slice none 0 0)).setCell ⟨w.heap.size, 6, none⟩ (.slice none 0 0)).setCell ⟨w.heap.size, 7, none⟩ (.slice none 0 0) = WF at *
    clear z0 f0 z1 f1 z2 f2 z3 f3 z4 f4 z5 f5 z6 f6 z7 f7
    have k0 := RF.2.1 0 _ rfl
    have k1 := RF.2.1 1 _ rfl
    have k2 := RF.2.1 2 _ rfl
    have k3 := RF.2.1 3 _ rfl
    have k4 := RF.2.1 4 _ rfl
    have k5 := RF.2.1 5 _ rfl
    have k6 := RF.2.1 6 _ rfl
    have k7 := RF.2.1 7 _ rfl
    refine bodyPost_ret (v := .tuple #[.agg #[.int .i64 0, .int .i64 0, .string ⟨#[]⟩, .string ⟨#[]⟩, .int .i64 0, .slice none 0 0, .slice none 0 0, .slice none 0 0], .bool false]) (by simp [results, Try.results7, go_sem, k0, k1, k2, k3, k4, k5, k6, k7]) rfl ?_
    rw [HV.out.1, HV.out.2.1, HV.out.2.2.1, HV.out.2.2.2.1, HV.out.2.2.2.2, ← HSO.out]
    exact ⟨none, 0, none, 0, none, 0, rfl, sigOwn_nil _ _, XF⟩
  · have HSO := Lib.hid (hk.symm.trans HDN.out)
    have HK := Lib.hid hk
    clear hk HDN
    have HV := Lib.hid (HYE.out HSO.out.symm)
    go_wp2_with fail
    generalize w1.alloc (Obj.cells #[.int .i64 hh, .int .i64 he, .string hr, .string hp, .int .i64 S.at_, .slice a1 S.op.length c1, .slice a2 S.sh.length c2, .slice a3 S.si.length c3] 28) = W2 at *
    refine (impl_fields_done _ t st.1 bd _ F2).mono ?_
    rw [HK.out]
    rintro e w3 ⟨rfl, x3⟩
    replace R := R.ext x3
    replace X := X.trans x3
    replace SO := SO.ext x3
    replace Q := Q.ext x3
    have q0 := Q.2.1 0 _ rfl
    have q1 := Q.2.1 1 _ rfl
    have q2 := Q.2.1 2 _ rfl
    have q3 := Q.2.1 3 _ rfl
    have q4 := Q.2.1 4 _ rfl
    have q5 := Q.2.1 5 _ rfl
    have q6 := Q.2.1 6 _ rfl
    have q7 := Q.2.1 7 _ rfl
    have z0 := R.2.1 0 _ rfl
    have z1 := R.2.1 1 _ rfl
    have z2 := R.2.1 2 _ rfl
    have z3 := R.2.1 3 _ rfl
    have z4 := R.2.1 4 _ rfl
    have z5 := R.2.1 5 _ rfl
    have z6 := R.2.1 6 _ rfl
    have z7 := R.2.1 7 _ rfl
    have f0 := R.2.2 0
    have f1 := R.2.2 1
    have f2 := R.2.2 2
    have f3 := R.2.2 3
    have f4 := R.2.2 4
    have f5 := R.2.2 5
    have f6 := R.2.2 6
    have f7 := R.2.2 7
    have XF : Ext w ((((((((w3.setCell ⟨w.heap.size, 0, none⟩ (.int .i64 hh)).setCell ⟨w.heap.size, 1, none⟩ (.int .i64 he)).setCell ⟨w.heap.size, 2, none⟩ (.string hr)).setCell ⟨w.heap.size, 3, none⟩ (.string hp)).setCell ⟨w.heap.size, 4, none⟩ (.int .i64 S.at_)).setCell ⟨w.heap.size, 5, none⟩ (.slice a1 S.op.length c1)).setCell ⟨w.heap.size, 6, none⟩ (.slice a2 S.sh.length c2)).setCell ⟨w.heap.size, 7, none⟩ (.slice a3 S.si.length c3)) := ((((((((X.setCell (by dsimp only; omega) _).setCell (by dsimp only; omega) _).setCell (by dsimp only; omega) _).setCell (by dsimp only; omega) _).setCell (by dsimp only; omega) _).setCell (by dsimp only; omega) _).setCell (by dsimp only; omega) _).setCell (by dsimp only; omega) _)
    have RF := ((((((((R.set 0 (.int .i64 hh) (by simp)).set 1 (.int .i64 he) (by simp)).set 2 (.string hr) (by simp)).set 3 (.string hp) (by simp)).set 4 (.int .i64 S.at_) (by simp)).set 5 (.slice a1 S.op.length c1) (by simp)).set 6 (.slice a2 S.sh.length c2) (by simp)).set 7 (.slice a3 S.si.length c3) (by simp))
    have SF := ((((((((SO.set (b := w.heap.size) (by omega) 0 (.int .i64 hh)).set (b := w.heap.size) (by omega) 1 (.int .i64 he)).set (b := w.heap.size) (by omega) 2 (.string hr)).set (b := w.heap.size) (by omega) 3 (.string hp)).set (b := w.heap.size) (by omega) 4 (.int .i64 S.at_)).set (b := w.heap.size) (by omega) 5 (.slice a1 S.op.length c1)).set (b := w.heap.size) (by omega) 6 (.slice a2 S.sh.length c2)).set (b := w.heap.size) (by omega) 7 (.slice a3 S.si.length c3))
    go_wp2
    generalize (((((((w3.setCell ⟨w.heap.size, 0, none⟩ (.int .i64 hh)).setCell ⟨w.heap.size, 1, none⟩ (.int .i64 he)).setCell ⟨w.heap.size, 2, none⟩ (.string hr)).setCell ⟨w.heap.size, 3, none⟩ (.string hp)).setCell ⟨w.heap.size, 4, none⟩ (.int .i64 S.at_)).setCell ⟨w.heap.size, 5, none⟩ (.slice a1 S.op.length c1)).setCell ⟨w.heap.size, 6, none⟩ (.slice a2 S.sh.length c2)).setCell ⟨w.heap.size, 7, none⟩ (.slice a3 S.si.length c3) = WF at *
    clear z0 f0 z1 f1 z2 f2 z3 f3 z4 f4 z5 f5 z6 f6 z7 f7
    have k0 := RF.2.1 0 _ rfl
    have k1 := RF.2.1 1 _ rfl
    have k2 := RF.2.1 2 _ rfl
    have k3 := RF.2.1 3 _ rfl
    have k4 := RF.2.1 4 _ rfl
    have k5 := RF.2.1 5 _ rfl
    have k6 := RF.2.1 6 _ rfl
    have k7 := RF.2.1 7 _ rfl
    refine bodyPost_ret (v := .tuple #[.agg #[.int .i64 hh, .int .i64 he, .string hr, .string hp, .int .i64 S.at_, .slice a1 S.op.length c1, .slice a2 S.sh.length c2, .slice a3 S.si.length c3], .bool true]) (by simp [results, Try.results7, go_sem, k0, k1, k2, k3, k4, k5, k6, k7]) rfl ?_
    rw [HV.out.1, HV.out.2.1, HV.out.2.2.1, HV.out.2.2.2.1, HV.out.2.2.2.2, ← HSO.out]
    exact ⟨a1, c1, a2, c2, a3, c3, rfl, SF.mono (by omega), XF⟩
theorem rdSigV_fit (t : ByteArray) : SigFit (rdSigV t) := by
  rw [rdSigV]
  split
  · refine ⟨fun s hs => Nat.le_trans (cutL_le t _ _ s hs) (by decide), fun s hs => Nat.le_trans (cutL_le t _ _ s hs) (by decide), fun s hs => Nat.le_trans (cutL_le t _ _ s hs) (by decide)⟩
  · exact ⟨fun s hs => by simp at hs, fun s hs => by simp at hs, fun s hs => by simp at hs⟩
set_option maxRecDepth 100000 in
set_option maxHeartbeats 3200000 in
theorem spec_ReadSeal (t : ByteArray) (w : World) (hs : t.size ≤ 1099511627776) :
    Calls Try.prog 6 #[.string t] w fun e w' => ∃ a1 c1 a2 c2 a3 c3, e = .returned (.tuple #[.agg #[.int .i64 (seI t), .int .i64 (seE t), .string (seR t), .string (seP t), .int .i64 (seV t).at_, .slice a1 (seV t).op.length c1, .slice a2 (seV t).sh.length c2, .slice a3 (seV t).si.length c3], .bool (seOk t)]) ∧ SigOwn w' w.heap.size (.slice a1 (seV t).op.length c1) (.slice a2 (seV t).sh.length c2) (.slice a3 (seV t).si.length c3) (seV t) ∧ Ext w w' := by
  have HNO := Lib.hid (fun h => se_no (t := t) h)
  have HYE := Lib.hid (fun h => se_yes (t := t) h)
  have HTX := Lib.hid (fun h => se_text (t := t) h)
  have HDF := Lib.hid (show seOk t = (rsOk t 0 && (rdHead (rsT t 0) && rdSig (t.extract (rsE t 0) t.size))) from rfl)
  generalize seOk t = so at *
  generalize seI t = vi at *
  generalize seE t = ve at *
  generalize seR t = vr at *
  generalize seP t = vp at *
  generalize seV t = vs at *
  have x0 : Ext w ((w.alloc (Obj.cells #[.int .i64 0, .int .i64 0, .string ⟨#[]⟩, .string ⟨#[]⟩, .int .i64 0, .slice none 0 0, .slice none 0 0, .slice none 0 0] 28)).alloc (Obj.cells #[.string t, .int .i64 0, .bool false] 67)) := ((Ext.refl w).alloc _).alloc _
  have R : Bx ((w.alloc (Obj.cells #[.int .i64 0, .int .i64 0, .string ⟨#[]⟩, .string ⟨#[]⟩, .int .i64 0, .slice none 0 0, .slice none 0 0, .slice none 0 0] 28)).alloc (Obj.cells #[.string t, .int .i64 0, .bool false] 67)) w.heap.size [.int .i64 0, .int .i64 0, .string ⟨#[]⟩, .string ⟨#[]⟩, .int .i64 0, .slice none 0 0, .slice none 0 0, .slice none 0 0] := (Bx.new w _ _).ext ((Ext.refl _).alloc _)
  have B : Bx ((w.alloc (Obj.cells #[.int .i64 0, .int .i64 0, .string ⟨#[]⟩, .string ⟨#[]⟩, .int .i64 0, .slice none 0 0, .slice none 0 0, .slice none 0 0] 28)).alloc (Obj.cells #[.string t, .int .i64 0, .bool false] 67)) (w.heap.size + 1) [.string t, .int .i64 0, .bool false] := by have e := Bx.new (w.alloc (Obj.cells #[.int .i64 0, .int .i64 0, .string ⟨#[]⟩, .string ⟨#[]⟩, .int .i64 0, .slice none 0 0, .slice none 0 0, .slice none 0 0] 28)) #[.string t, .int .i64 0, .bool false] 67; rw [World.size_alloc] at e; exact e
  have he := rsE_bd t 0
  have hz := rsT_le t 0
  go_enter Try.func6, Try.ntmps6
  go_wp2_with fail
  generalize (w.alloc (Obj.cells #[.int .i64 0, .int .i64 0, .string ⟨#[]⟩, .string ⟨#[]⟩, .int .i64 0, .slice none 0 0, .slice none 0 0, .slice none 0 0] 28)).alloc (Obj.cells #[.string t, .int .i64 0, .bool false] 67) = W0 at *
  have F : Fld W0 (w.heap.size + 1) t 0 false := ⟨B.2.1 0 _ rfl, B.2.1 1 _ rfl, B.2.1 2 _ rfl, B.2.2⟩
  refine (spec_l09Short (w.heap.size + 1) t 0 false _ F B.1 rfl hs).mono ?_
  have HSY := Lib.hid (fun h => shAt_yes (t := t) (a := 0) h)
  generalize rsT t 0 = ht at *
  generalize shAt t 0 = sa at *
  generalize rsE t 0 = ee at *
  generalize rsOk t 0 = ok at *
  rintro e w1 ⟨rfl, M1, F1⟩
  have R1 := R.mut M1 (by omega)
  have X1 : Ext w w1 := x0.mut M1 (by omega)
  have z1 := Nat.lt_of_lt_of_le B.1 M1.size
  clear R F
  go_wp2_with fail
  refine (spec_ReadHead ht _ (by omega)).mono ?_
  generalize hdH ht = hh at *
  generalize hdE ht = hee at *
  generalize hdR ht = hr at *
  generalize hdP ht = hp at *
  generalize rdHead ht = rk at *
  rintro e w2 ⟨rfl, x2⟩
  have x3 : Ext w2 (w2.alloc (Obj.cells #[.int .i64 hh, .int .i64 hee, .string hr, .string hp] 23)) := (Ext.refl _).alloc _
  have H := Bx.new w2 #[.int .i64 hh, .int .i64 hee, .string hr, .string hp] 23
  have R := (R1.ext x2).ext x3
  have X := (X1.trans x2).trans x3
  have z2 := Nat.lt_of_lt_of_le z1 x2.size
  have F2 := (F1.ext z1 x2).ext z2 x3
  have z3 := Nat.lt_of_lt_of_le z2 x3.size
  clear R1 X1 F1 x2 x3
  have c2b := F2.c2
  have c1b := F2.c1
  cases ok
  · have HSO := Lib.hid (show so = false by rw [HDF.out]; rfl)
    have HV := Lib.hid (HNO.out HSO.out)
    have z0 := R.2.1 0 _ rfl
    have z1 := R.2.1 1 _ rfl
    have z2 := R.2.1 2 _ rfl
    have z3 := R.2.1 3 _ rfl
    have z4 := R.2.1 4 _ rfl
    have z5 := R.2.1 5 _ rfl
    have z6 := R.2.1 6 _ rfl
    have z7 := R.2.1 7 _ rfl
    have f0 := R.2.2 0
    have f1 := R.2.2 1
    have f2 := R.2.2 2
    have f3 := R.2.2 3
    have f4 := R.2.2 4
    have f5 := R.2.2 5
    have f6 := R.2.2 6
    have f7 := R.2.2 7
    have XF : Ext w (((((((((w2.alloc (Obj.cells #[.int .i64 hh, .int .i64 hee, .string hr, .string hp] 23)).setCell ⟨w.heap.size, 0, none⟩ (.int .i64 0)).setCell ⟨w.heap.size, 1, none⟩ (.int .i64 0)).setCell ⟨w.heap.size, 2, none⟩ (.string ⟨#[]⟩)).setCell ⟨w.heap.size, 3, none⟩ (.string ⟨#[]⟩)).setCell ⟨w.heap.size, 4, none⟩ (.int .i64 0)).setCell ⟨w.heap.size, 5, none⟩ (.slice none 0 0)).setCell ⟨w.heap.size, 6, none⟩ (.slice none 0 0)).setCell ⟨w.heap.size, 7, none⟩ (.slice none 0 0)) := ((((((((X.setCell (by dsimp only; omega) _).setCell (by dsimp only; omega) _).setCell (by dsimp only; omega) _).setCell (by dsimp only; omega) _).setCell (by dsimp only; omega) _).setCell (by dsimp only; omega) _).setCell (by dsimp only; omega) _).setCell (by dsimp only; omega) _)
    have RF := ((((((((R.set 0 (.int .i64 0) (by simp)).set 1 (.int .i64 0) (by simp)).set 2 (.string ⟨#[]⟩) (by simp)).set 3 (.string ⟨#[]⟩) (by simp)).set 4 (.int .i64 0) (by simp)).set 5 (.slice none 0 0) (by simp)).set 6 (.slice none 0 0) (by simp)).set 7 (.slice none 0 0) (by simp))
    go_wp2
    generalize ((((((((w2.alloc (Obj.cells #[.int .i64 hh, .int .i64 hee, .string hr, .string hp] 23)).setCell ⟨w.heap.size, 0, none⟩ (.int .i64 0)).setCell ⟨w.heap.size, 1, none⟩ (.int .i64 0)).setCell ⟨w.heap.size, 2, none⟩ (.string ⟨#[]⟩)).setCell ⟨w.heap.size, 3, none⟩ (.string ⟨#[]⟩)).setCell ⟨w.heap.size, 4, none⟩ (.int .i64 0)).setCell ⟨w.heap.size, 5, none⟩ (.slice none 0 0)).setCell ⟨w.heap.size, 6, none⟩ (.slice none 0 0)).setCell ⟨w.heap.size, 7, none⟩ (.slice none 0 0) = WF at *
    clear z0 f0 z1 f1 z2 f2 z3 f3 z4 f4 z5 f5 z6 f6 z7 f7
    have k0 := RF.2.1 0 _ rfl
    have k1 := RF.2.1 1 _ rfl
    have k2 := RF.2.1 2 _ rfl
    have k3 := RF.2.1 3 _ rfl
    have k4 := RF.2.1 4 _ rfl
    have k5 := RF.2.1 5 _ rfl
    have k6 := RF.2.1 6 _ rfl
    have k7 := RF.2.1 7 _ rfl
    refine bodyPost_ret (v := .tuple #[.agg #[.int .i64 0, .int .i64 0, .string ⟨#[]⟩, .string ⟨#[]⟩, .int .i64 0, .slice none 0 0, .slice none 0 0, .slice none 0 0], .bool false]) (by simp [results, Try.results6, go_sem, k0, k1, k2, k3, k4, k5, k6, k7]) rfl ?_
    rw [HV.out.1, HV.out.2.1, HV.out.2.2.1, HV.out.2.2.2.1, HV.out.2.2.2.2, HSO.out]
    exact ⟨none, 0, none, 0, none, 0, rfl, sigOwn_nil _ _, XF⟩
  · cases rk
    · have HSO := Lib.hid (show so = false by rw [HDF.out]; rfl)
      have HV := Lib.hid (HNO.out HSO.out)
      have z0 := R.2.1 0 _ rfl
      have z1 := R.2.1 1 _ rfl
      have z2 := R.2.1 2 _ rfl
      have z3 := R.2.1 3 _ rfl
      have z4 := R.2.1 4 _ rfl
      have z5 := R.2.1 5 _ rfl
      have z6 := R.2.1 6 _ rfl
      have z7 := R.2.1 7 _ rfl
      have f0 := R.2.2 0
      have f1 := R.2.2 1
      have f2 := R.2.2 2
      have f3 := R.2.2 3
      have f4 := R.2.2 4
      have f5 := R.2.2 5
      have f6 := R.2.2 6
      have f7 := R.2.2 7
      have XF : Ext w (((((((((w2.alloc (Obj.cells #[.int .i64 hh, .int .i64 hee, .string hr, .string hp] 23)).setCell ⟨w.heap.size, 0, none⟩ (.int .i64 0)).setCell ⟨w.heap.size, 1, none⟩ (.int .i64 0)).setCell ⟨w.heap.size, 2, none⟩ (.string ⟨#[]⟩)).setCell ⟨w.heap.size, 3, none⟩ (.string ⟨#[]⟩)).setCell ⟨w.heap.size, 4, none⟩ (.int .i64 0)).setCell ⟨w.heap.size, 5, none⟩ (.slice none 0 0)).setCell ⟨w.heap.size, 6, none⟩ (.slice none 0 0)).setCell ⟨w.heap.size, 7, none⟩ (.slice none 0 0)) := ((((((((X.setCell (by dsimp only; omega) _).setCell (by dsimp only; omega) _).setCell (by dsimp only; omega) _).setCell (by dsimp only; omega) _).setCell (by dsimp only; omega) _).setCell (by dsimp only; omega) _).setCell (by dsimp only; omega) _).setCell (by dsimp only; omega) _)
      have RF := ((((((((R.set 0 (.int .i64 0) (by simp)).set 1 (.int .i64 0) (by simp)).set 2 (.string ⟨#[]⟩) (by simp)).set 3 (.string ⟨#[]⟩) (by simp)).set 4 (.int .i64 0) (by simp)).set 5 (.slice none 0 0) (by simp)).set 6 (.slice none 0 0) (by simp)).set 7 (.slice none 0 0) (by simp))
      go_wp2
      generalize ((((((((w2.alloc (Obj.cells #[.int .i64 hh, .int .i64 hee, .string hr, .string hp] 23)).setCell ⟨w.heap.size, 0, none⟩ (.int .i64 0)).setCell ⟨w.heap.size, 1, none⟩ (.int .i64 0)).setCell ⟨w.heap.size, 2, none⟩ (.string ⟨#[]⟩)).setCell ⟨w.heap.size, 3, none⟩ (.string ⟨#[]⟩)).setCell ⟨w.heap.size, 4, none⟩ (.int .i64 0)).setCell ⟨w.heap.size, 5, none⟩ (.slice none 0 0)).setCell ⟨w.heap.size, 6, none⟩ (.slice none 0 0)).setCell ⟨w.heap.size, 7, none⟩ (.slice none 0 0) = WF at *
      clear z0 f0 z1 f1 z2 f2 z3 f3 z4 f4 z5 f5 z6 f6 z7 f7
      have k0 := RF.2.1 0 _ rfl
      have k1 := RF.2.1 1 _ rfl
      have k2 := RF.2.1 2 _ rfl
      have k3 := RF.2.1 3 _ rfl
      have k4 := RF.2.1 4 _ rfl
      have k5 := RF.2.1 5 _ rfl
      have k6 := RF.2.1 6 _ rfl
      have k7 := RF.2.1 7 _ rfl
      refine bodyPost_ret (v := .tuple #[.agg #[.int .i64 0, .int .i64 0, .string ⟨#[]⟩, .string ⟨#[]⟩, .int .i64 0, .slice none 0 0, .slice none 0 0, .slice none 0 0], .bool false]) (by simp [results, Try.results6, go_sem, k0, k1, k2, k3, k4, k5, k6, k7]) rfl ?_
      rw [HV.out.1, HV.out.2.1, HV.out.2.2.1, HV.out.2.2.2.1, HV.out.2.2.2.2, HSO.out]
      exact ⟨none, 0, none, 0, none, 0, rfl, sigOwn_nil _ _, XF⟩
    · have hsa : sa = (ee : Int) := HSY.out rfl
      subst hsa
      have hel : ee ≤ t.size := by omega
      have n1 : ((ee : Nat) : Int).toNat = ee := rfl
      have h0 := H.2.1 0 _ rfl
      have h1 := H.2.1 1 _ rfl
      have h2 := H.2.1 2 _ rfl
      have h3 := H.2.1 3 _ rfl
      have HRS := Lib.hid (show so = rdSig (t.extract ee t.size) by rw [HDF.out]; rfl)
      go_wp2_with fail
      generalize hsx : t.extract ee t.size = sx at *
      have hsxz : sx.size ≤ t.size := by rw [← hsx, ByteArray.size_extract]; omega
      clear hsx
      generalize w2.alloc (Obj.cells #[.int .i64 hh, .int .i64 hee, .string hr, .string hp] 23) = w3 at *
      refine (spec_ReadSig sx _ (by omega)).mono ?_
      have HNV := Lib.hid (fun h => rdSigV_no (t := sx) h)
      have HWL := Lib.hid (fun h => (rdSig_text (t := sx) h).1)
      have HCL := Lib.hid (show SigFit (rdSigV sx) from rdSigV_fit sx)
      generalize rdSigV sx = S at *
      generalize hrd : rdSig sx = rd at *
      have HRD := Lib.hid hrd
      clear hrd
      rintro e w4 ⟨a1, c1, a2, c2, a3, c3, rfl, so4, x4⟩
      have SO := so4.mono (show w.heap.size + 2 ≤ w3.heap.size by omega)
      clear so4 h0 h1 h2 h3 c1b c2b
      replace R := R.ext x4
      replace X := X.trans x4
      replace H := H.ext x4
      replace F2 := F2.ext z3 x4
      replace z3 := Nat.lt_of_lt_of_le z3 (Ext.size x4)
      have h0 := (H.ext ((Ext.refl _).alloc (Obj.cells #[.int .i64 S.at_, .slice a1 S.op.length c1, .slice a2 S.sh.length c2, .slice a3 S.si.length c3] 26))).2.1 0 _ rfl
      have h1 := (H.ext ((Ext.refl _).alloc (Obj.cells #[.int .i64 S.at_, .slice a1 S.op.length c1, .slice a2 S.sh.length c2, .slice a3 S.si.length c3] 26))).2.1 1 _ rfl
      have h2 := (H.ext ((Ext.refl _).alloc (Obj.cells #[.int .i64 S.at_, .slice a1 S.op.length c1, .slice a2 S.sh.length c2, .slice a3 S.si.length c3] 26))).2.1 2 _ rfl
      have h3 := (H.ext ((Ext.refl _).alloc (Obj.cells #[.int .i64 S.at_, .slice a1 S.op.length c1, .slice a2 S.sh.length c2, .slice a3 S.si.length c3] 26))).2.1 3 _ rfl
      have e6 : Ext w4 ((w4.alloc (Obj.cells #[.int .i64 S.at_, .slice a1 S.op.length c1, .slice a2 S.sh.length c2, .slice a3 S.si.length c3] 26)).alloc (Obj.cells #[.int .i64 hh, .int .i64 hee, .string hr, .string hp, .int .i64 S.at_, .slice a1 S.op.length c1, .slice a2 S.sh.length c2, .slice a3 S.si.length c3] 28)) := ((Ext.refl _).alloc _).alloc _
      have Q : Bx ((w4.alloc (Obj.cells #[.int .i64 S.at_, .slice a1 S.op.length c1, .slice a2 S.sh.length c2, .slice a3 S.si.length c3] 26)).alloc (Obj.cells #[.int .i64 hh, .int .i64 hee, .string hr, .string hp, .int .i64 S.at_, .slice a1 S.op.length c1, .slice a2 S.sh.length c2, .slice a3 S.si.length c3] 28)) (w4.heap.size + 1) [.int .i64 hh, .int .i64 hee, .string hr, .string hp, .int .i64 S.at_, .slice a1 S.op.length c1, .slice a2 S.sh.length c2, .slice a3 S.si.length c3] := by have e := Bx.new (w4.alloc (Obj.cells #[.int .i64 S.at_, .slice a1 S.op.length c1, .slice a2 S.sh.length c2, .slice a3 S.si.length c3] 26)) #[.int .i64 hh, .int .i64 hee, .string hr, .string hp, .int .i64 S.at_, .slice a1 S.op.length c1, .slice a2 S.sh.length c2, .slice a3 S.si.length c3] 28; rw [World.size_alloc] at e; exact e
      go_wp2_with fail
      replace R := R.ext e6
      replace X := X.trans e6
      replace H := H.ext e6
      replace F2 := F2.ext z3 e6
      replace z3 := Nat.lt_of_lt_of_le z3 (Ext.size e6)
      replace SO := SO.ext e6
      clear h0 h1 h2 h3
      generalize (w4.alloc (Obj.cells #[.int .i64 S.at_, .slice a1 S.op.length c1, .slice a2 S.sh.length c2, .slice a3 S.si.length c3] 26)).alloc (Obj.cells #[.int .i64 hh, .int .i64 hee, .string hr, .string hp, .int .i64 S.at_, .slice a1 S.op.length c1, .slice a2 S.sh.length c2, .slice a3 S.si.length c3] 28) = w6 at *
      generalize w4.heap.size + 1 = qb at *
      refine (spec_SealText hh hee hr hp _ _ _ S _ SO.1.strs SO.2.1.strs SO.2.2.1.strs HCL.out).mono ?_
      generalize hst : sealT hh hee hr hp S = stx at *
      generalize hso : sealOk hh hee hr hp S = sok at *
      have HST := Lib.hid hst
      have HSK := Lib.hid hso
      clear hst hso
      rintro e w7 ⟨rfl, x7⟩
      replace R := R.ext x7
      replace X := X.trans x7
      replace H := H.ext x7
      replace F2 := F2.ext z3 x7
      replace z3 := Nat.lt_of_lt_of_le z3 (Ext.size x7)
      replace SO := SO.ext x7
      replace Q := Q.ext x7
      cases rd
      · have HSO := Lib.hid (show so = false from HRS.out)
        have HV := Lib.hid (HNO.out HSO.out)
        have z0 := R.2.1 0 _ rfl
        have z1 := R.2.1 1 _ rfl
        have z2 := R.2.1 2 _ rfl
        have z3 := R.2.1 3 _ rfl
        have z4 := R.2.1 4 _ rfl
        have z5 := R.2.1 5 _ rfl
        have z6 := R.2.1 6 _ rfl
        have z7 := R.2.1 7 _ rfl
        have f0 := R.2.2 0
        have f1 := R.2.2 1
        have f2 := R.2.2 2
        have f3 := R.2.2 3
        have f4 := R.2.2 4
        have f5 := R.2.2 5
        have f6 := R.2.2 6
        have f7 := R.2.2 7
        have XF : Ext w ((((((((w7.setCell ⟨w.heap.size, 0, none⟩ (.int .i64 0)).setCell ⟨w.heap.size, 1, none⟩ (.int .i64 0)).setCell ⟨w.heap.size, 2, none⟩ (.string ⟨#[]⟩)).setCell ⟨w.heap.size, 3, none⟩ (.string ⟨#[]⟩)).setCell ⟨w.heap.size, 4, none⟩ (.int .i64 0)).setCell ⟨w.heap.size, 5, none⟩ (.slice none 0 0)).setCell ⟨w.heap.size, 6, none⟩ (.slice none 0 0)).setCell ⟨w.heap.size, 7, none⟩ (.slice none 0 0)) := ((((((((X.setCell (by dsimp only; omega) _).setCell (by dsimp only; omega) _).setCell (by dsimp only; omega) _).setCell (by dsimp only; omega) _).setCell (by dsimp only; omega) _).setCell (by dsimp only; omega) _).setCell (by dsimp only; omega) _).setCell (by dsimp only; omega) _)
        have RF := ((((((((R.set 0 (.int .i64 0) (by simp)).set 1 (.int .i64 0) (by simp)).set 2 (.string ⟨#[]⟩) (by simp)).set 3 (.string ⟨#[]⟩) (by simp)).set 4 (.int .i64 0) (by simp)).set 5 (.slice none 0 0) (by simp)).set 6 (.slice none 0 0) (by simp)).set 7 (.slice none 0 0) (by simp))
        go_wp2
        generalize (((((((w7.setCell ⟨w.heap.size, 0, none⟩ (.int .i64 0)).setCell ⟨w.heap.size, 1, none⟩ (.int .i64 0)).setCell ⟨w.heap.size, 2, none⟩ (.string ⟨#[]⟩)).setCell ⟨w.heap.size, 3, none⟩ (.string ⟨#[]⟩)).setCell ⟨w.heap.size, 4, none⟩ (.int .i64 0)).setCell ⟨w.heap.size, 5, none⟩ (.slice none 0 0)).setCell ⟨w.heap.size, 6, none⟩ (.slice none 0 0)).setCell ⟨w.heap.size, 7, none⟩ (.slice none 0 0) = WF at *
        clear z0 f0 z1 f1 z2 f2 z3 f3 z4 f4 z5 f5 z6 f6 z7 f7
        have k0 := RF.2.1 0 _ rfl
        have k1 := RF.2.1 1 _ rfl
        have k2 := RF.2.1 2 _ rfl
        have k3 := RF.2.1 3 _ rfl
        have k4 := RF.2.1 4 _ rfl
        have k5 := RF.2.1 5 _ rfl
        have k6 := RF.2.1 6 _ rfl
        have k7 := RF.2.1 7 _ rfl
        refine bodyPost_ret (v := .tuple #[.agg #[.int .i64 0, .int .i64 0, .string ⟨#[]⟩, .string ⟨#[]⟩, .int .i64 0, .slice none 0 0, .slice none 0 0, .slice none 0 0], .bool false]) (by simp [results, Try.results6, go_sem, k0, k1, k2, k3, k4, k5, k6, k7]) rfl ?_
        rw [HV.out.1, HV.out.2.1, HV.out.2.2.1, HV.out.2.2.2.1, HV.out.2.2.2.2, HSO.out]
        exact ⟨none, 0, none, 0, none, 0, rfl, sigOwn_nil _ _, XF⟩
      · have hso : so = true := HRS.out
        have HSO := Lib.hid hso
        obtain ⟨v1, v2, v3, v4, v5⟩ := HYE.out hso
        obtain ⟨w1x, w2x⟩ := HTX.out hso
        have HV := Lib.hid (show vi = hh ∧ ve = hee ∧ vr = hr ∧ vp = hp ∧ vs = S from ⟨v1, v2, v3, v4, v5⟩)
        rw [v1, v2, v3, v4, v5, HSK.out] at w1x
        rw [v1, v2, v3, v4, v5, HST.out] at w2x
        subst w1x
        have hbq : (stx.toList != t.toList) = false := by rw [w2x]; simp
        have hbe : (stx.toList == t.toList) = true := by rw [w2x]; simp
        clear v1 v2 v3 v4 v5 w2x hso
        have q0 := Q.2.1 0 _ rfl
        have q1 := Q.2.1 1 _ rfl
        have q2 := Q.2.1 2 _ rfl
        have q3 := Q.2.1 3 _ rfl
        have q4 := Q.2.1 4 _ rfl
        have q5 := Q.2.1 5 _ rfl
        have q6 := Q.2.1 6 _ rfl
        have q7 := Q.2.1 7 _ rfl
        have z0 := R.2.1 0 _ rfl
        have z1 := R.2.1 1 _ rfl
        have z2 := R.2.1 2 _ rfl
        have z3 := R.2.1 3 _ rfl
        have z4 := R.2.1 4 _ rfl
        have z5 := R.2.1 5 _ rfl
        have z6 := R.2.1 6 _ rfl
        have z7 := R.2.1 7 _ rfl
        have f0 := R.2.2 0
        have f1 := R.2.2 1
        have f2 := R.2.2 2
        have f3 := R.2.2 3
        have f4 := R.2.2 4
        have f5 := R.2.2 5
        have f6 := R.2.2 6
        have f7 := R.2.2 7
        have XF : Ext w ((((((((w7.setCell ⟨w.heap.size, 0, none⟩ (.int .i64 hh)).setCell ⟨w.heap.size, 1, none⟩ (.int .i64 hee)).setCell ⟨w.heap.size, 2, none⟩ (.string hr)).setCell ⟨w.heap.size, 3, none⟩ (.string hp)).setCell ⟨w.heap.size, 4, none⟩ (.int .i64 S.at_)).setCell ⟨w.heap.size, 5, none⟩ (.slice a1 S.op.length c1)).setCell ⟨w.heap.size, 6, none⟩ (.slice a2 S.sh.length c2)).setCell ⟨w.heap.size, 7, none⟩ (.slice a3 S.si.length c3)) := ((((((((X.setCell (by dsimp only; omega) _).setCell (by dsimp only; omega) _).setCell (by dsimp only; omega) _).setCell (by dsimp only; omega) _).setCell (by dsimp only; omega) _).setCell (by dsimp only; omega) _).setCell (by dsimp only; omega) _).setCell (by dsimp only; omega) _)
        have RF := ((((((((R.set 0 (.int .i64 hh) (by simp)).set 1 (.int .i64 hee) (by simp)).set 2 (.string hr) (by simp)).set 3 (.string hp) (by simp)).set 4 (.int .i64 S.at_) (by simp)).set 5 (.slice a1 S.op.length c1) (by simp)).set 6 (.slice a2 S.sh.length c2) (by simp)).set 7 (.slice a3 S.si.length c3) (by simp))
        have SF := ((((((((SO.set (b := w.heap.size) (by omega) 0 (.int .i64 hh)).set (b := w.heap.size) (by omega) 1 (.int .i64 hee)).set (b := w.heap.size) (by omega) 2 (.string hr)).set (b := w.heap.size) (by omega) 3 (.string hp)).set (b := w.heap.size) (by omega) 4 (.int .i64 S.at_)).set (b := w.heap.size) (by omega) 5 (.slice a1 S.op.length c1)).set (b := w.heap.size) (by omega) 6 (.slice a2 S.sh.length c2)).set (b := w.heap.size) (by omega) 7 (.slice a3 S.si.length c3))
        go_wp2
        generalize (((((((w7.setCell ⟨w.heap.size, 0, none⟩ (.int .i64 hh)).setCell ⟨w.heap.size, 1, none⟩ (.int .i64 hee)).setCell ⟨w.heap.size, 2, none⟩ (.string hr)).setCell ⟨w.heap.size, 3, none⟩ (.string hp)).setCell ⟨w.heap.size, 4, none⟩ (.int .i64 S.at_)).setCell ⟨w.heap.size, 5, none⟩ (.slice a1 S.op.length c1)).setCell ⟨w.heap.size, 6, none⟩ (.slice a2 S.sh.length c2)).setCell ⟨w.heap.size, 7, none⟩ (.slice a3 S.si.length c3) = WF at *
        clear z0 f0 z1 f1 z2 f2 z3 f3 z4 f4 z5 f5 z6 f6 z7 f7
        have k0 := RF.2.1 0 _ rfl
        have k1 := RF.2.1 1 _ rfl
        have k2 := RF.2.1 2 _ rfl
        have k3 := RF.2.1 3 _ rfl
        have k4 := RF.2.1 4 _ rfl
        have k5 := RF.2.1 5 _ rfl
        have k6 := RF.2.1 6 _ rfl
        have k7 := RF.2.1 7 _ rfl
        refine bodyPost_ret (v := .tuple #[.agg #[.int .i64 hh, .int .i64 hee, .string hr, .string hp, .int .i64 S.at_, .slice a1 S.op.length c1, .slice a2 S.sh.length c2, .slice a3 S.si.length c3], .bool true]) (by simp [results, Try.results6, go_sem, k0, k1, k2, k3, k4, k5, k6, k7]) rfl ?_
        rw [HV.out.1, HV.out.2.1, HV.out.2.2.1, HV.out.2.2.2.1, HV.out.2.2.2.2, HSO.out]
        exact ⟨a1, c1, a2, c2, a3, c3, rfl, SF.mono (by omega), XF⟩
end Go.Proofs.Ytliebkhfddmhjaa
