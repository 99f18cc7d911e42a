/- Numbers read: the plain law. -/
import Derived.Test.YtliebkhfddmhjaaTagA
import Derived.Test.YtliebkhfddmhjaaCore
namespace Go.Proofs.Ytliebkhfddmhjaa
open Go.RowKit

theorem varB_ne0 (n : Nat) : 0 < (varB n).length := List.length_pos_iff.2 (varB_pos n)
theorem varB_len_more {n : Nat} (h : 127 < n) : (varB n).length = (varB (n / 128)).length + 1 := by rw [varB_more h, List.length_cons]
theorem peel_last {x : UInt8} {r : List UInt8} (hx : x.toNat < 128) (n : Nat) : (∃ q, x :: r = varB n ++ q) ↔ n = x.toNat := by
  constructor
  · rintro ⟨q, e⟩
    by_cases hn : 127 < n
    · rw [varB_more hn, List.cons_append, List.cons.injEq] at e
      have := congrArg UInt8.toNat e.1
      simp at this
      omega
    · rw [varB_last hn, List.cons_append, List.cons.injEq] at e
      have := congrArg UInt8.toNat e.1
      simp at this
      omega
  · rintro rfl
    exact ⟨r, by rw [varB_last (by omega)]; simp⟩
theorem peel_more {x : UInt8} {r : List UInt8} (hx : 128 ≤ x.toNat) (n : Nat) : (∃ q, x :: r = varB n ++ q) ↔ (127 < n ∧ n % 128 = x.toNat - 128 ∧ ∃ q, r = varB (n / 128) ++ q) := by
  have hb := x.toNat_lt
  constructor
  · rintro ⟨q, e⟩
    by_cases hn : 127 < n
    · rw [varB_more hn, List.cons_append, List.cons.injEq] at e
      have := congrArg UInt8.toNat e.1
      simp at this
      exact ⟨hn, by omega, q, e.2⟩
    · rw [varB_last hn, List.cons_append, List.cons.injEq] at e
      have := congrArg UInt8.toNat e.1
      simp at this
      omega
  · rintro ⟨hn, hm, q, rfl⟩
    refine ⟨q, ?_⟩
    rw [varB_more hn, List.cons_append, List.cons.injEq]
    refine ⟨?_, rfl⟩
    rw [hm, show 128 + (x.toNat - 128) = x.toNat by omega]
    simp
theorem peel_nil (n : Nat) : ¬ ∃ q, ([] : List UInt8) = varB n ++ q := by
  rintro ⟨q, e⟩
  exact varB_pos n (List.append_eq_nil_iff.1 e.symm).1
/-- does a number stand at a place? -/
def VarAt (t : ByteArray) (a n : Nat) : Prop := n ≤ 1000000000 ∧ ∃ q, t.data.toList.drop a = varB n ++ q
theorem VarAt.one {t : ByteArray} {a n m : Nat} (h : VarAt t a n) (k : VarAt t a m) : n = m := by
  obtain ⟨-, q, e⟩ := h
  obtain ⟨-, q', e'⟩ := k
  exact (var_inj n m q q' (e.symm.trans e')).1
open Classical in
noncomputable def rvOk (t : ByteArray) (a : Int) : Bool := decide (0 ≤ a ∧ ∃ n, VarAt t a.toNat n)
open Classical in
noncomputable def rvV (t : ByteArray) (a : Int) : Nat := if h : 0 ≤ a ∧ ∃ n, VarAt t a.toNat n then h.2.choose else 0
noncomputable def rvE (t : ByteArray) (a : Int) : Nat := if rvOk t a = true then a.toNat + (varB (rvV t a)).length else 0
theorem rv_yes {t : ByteArray} {a n : Nat} (h : VarAt t a n) : rvOk t a = true ∧ rvV t a = n ∧ rvE t a = a + (varB n).length := by
  have hx : 0 ≤ (a : Int) ∧ ∃ n, VarAt t (a : Int).toNat n := ⟨by omega, n, h⟩
  have h1 : rvOk t a = true := by simp only [rvOk, decide_eq_true_eq]; exact hx
  have h2 : rvV t a = n := by rw [rvV, dif_pos hx]; exact VarAt.one hx.2.choose_spec h
  exact ⟨h1, h2, by rw [rvE, if_pos h1, h2]; rfl⟩
theorem rv_no {t : ByteArray} {a : Int} (h : ¬ (0 ≤ a ∧ ∃ n, VarAt t a.toNat n)) : rvOk t a = false ∧ rvV t a = 0 ∧ rvE t a = 0 := by
  have h1 : rvOk t a = false := by simp only [rvOk, decide_eq_false_iff_not]; exact h
  exact ⟨h1, by rw [rvV, dif_neg h], by rw [rvE, if_neg (by rw [h1]; decide)]⟩
theorem rv_cases (t : ByteArray) (a : Int) : (∃ n, 0 ≤ a ∧ VarAt t a.toNat n ∧ rvOk t a = true ∧ rvV t a = n ∧ rvE t a = a.toNat + (varB n).length) ∨ (rvOk t a = false ∧ rvV t a = 0 ∧ rvE t a = 0) := by
  by_cases h : 0 ≤ a ∧ ∃ n, VarAt t a.toNat n
  · left
    obtain ⟨h0, n, h⟩ := h
    have := rv_yes h
    rw [Int.toNat_of_nonneg h0] at this
    exact ⟨n, h0, h, this⟩
  · exact Or.inr (rv_no h)
theorem VarAt.lt {t : ByteArray} {a n : Nat} (h : VarAt t a n) : a + (varB n).length ≤ t.size := by
  obtain ⟨-, q, e⟩ := h
  have h1 := congrArg List.length e
  rw [List.length_drop, List.length_append, ba_len] at h1
  have := varB_ne0 n
  omega
theorem rvE_bd (t : ByteArray) (a : Int) : 0 ≤ (rvE t a : Int) ∧ (rvE t a : Int) ≤ t.size := by
  rcases rv_cases t a with ⟨n, h0, h, -, -, e⟩ | ⟨-, -, e⟩
  · have := h.lt; omega
  · omega
theorem rvV_bd (t : ByteArray) (a : Int) : rvV t a ≤ 1000000000 := by
  rcases rv_cases t a with ⟨n, h0, h, -, e, -⟩ | ⟨-, e, -⟩
  · rw [e]; exact h.1
  · omega
/-- k bytes of a number were read: acc is what they say -/
structure VarIn (t : ByteArray) (a k acc : Nat) : Prop where
  lt : acc < 128 ^ k
  fwd : ∀ m q, t.data.toList.drop (a + k) = varB m ++ q → (k = 0 ∨ 0 < m) → t.data.toList.drop a = varB (acc + 128 ^ k * m) ++ q ∧ (varB (acc + 128 ^ k * m)).length = k + (varB m).length
  back : ∀ n q, t.data.toList.drop a = varB n ++ q → ∃ m, n = acc + 128 ^ k * m ∧ (k = 0 ∨ 0 < m) ∧ t.data.toList.drop (a + k) = varB m ++ q
theorem VarIn.zero (t : ByteArray) (a : Nat) : VarIn t a 0 0 := by
  refine ⟨by simp, fun m q h _ => ?_, fun n q h => ⟨n, by simp, Or.inl rfl, by simpa using h⟩⟩
  simpa using h
theorem drop_at {t : ByteArray} {i : Nat} (h : i < t.size) : t.data.toList.drop i = t[i] :: t.data.toList.drop (i + 1) := by
  have hl : i < t.data.toList.length := by rw [ba_len]; exact h
  rw [List.drop_eq_getElem_cons hl]
  rfl
theorem peel_more' {x : UInt8} {r q : List UInt8} (hx : 128 ≤ x.toNat) (n : Nat) : x :: r = varB n ++ q ↔ (127 < n ∧ n % 128 = x.toNat - 128 ∧ r = varB (n / 128) ++ q) := by
  constructor
  · intro e
    have := (peel_more (r := r) hx n).1 ⟨q, e⟩
    refine ⟨this.1, this.2.1, ?_⟩
    rw [varB_more this.1, List.cons_append, List.cons.injEq] at e
    exact e.2
  · rintro ⟨hn, hm, rfl⟩
    have hb := x.toNat_lt
    rw [varB_more hn, List.cons_append, List.cons.injEq]
    refine ⟨?_, rfl⟩
    rw [hm, show 128 + (x.toNat - 128) = x.toNat by omega]
    simp
theorem VarIn.more {t : ByteArray} {a k acc : Nat} (h : VarIn t a k acc) (hi : a + k < t.size) (hx : 128 ≤ (t[a + k]).toNat) : VarIn t a (k + 1) (acc + (t[a + k]).toNat % 128 * 128 ^ k) := by
  obtain ⟨hacc, hf, hb'⟩ := h
  have hb := (t[a + k]).toNat_lt
  have hd := drop_at hi
  generalize t[a + k] = x at *
  generalize hP : 128 ^ k = P at *
  have hP1 : 128 ^ (k + 1) = P * 128 := by rw [Nat.pow_succ, hP]
  obtain ⟨r, hr, hle⟩ : ∃ r, x.toNat % 128 = r ∧ r ≤ 127 := ⟨_, rfl, by omega⟩
  have hr2 : x.toNat - 128 = r := by omega
  rw [hr]
  have hmul : r * P ≤ 127 * P := Nat.mul_le_mul_right P hle
  have hid : ∀ m, P * (128 * m + r) = P * 128 * m + r * P := fun m => by rw [Nat.mul_add, ← Nat.mul_assoc, Nat.mul_comm P r]
  refine ⟨by rw [hP1]; omega, fun m q e hm => ?_, fun n q e => ?_⟩
  · have hm0 : 0 < m := by rcases hm with hm | hm <;> omega
    have h1 : 127 < 128 * m + r := by omega
    have e2 : (128 * m + r) / 128 = m := by omega
    have e3 : t.data.toList.drop (a + k) = varB (128 * m + r) ++ q := by
      rw [hd, peel_more' hx, e2, hr2]
      exact ⟨h1, by omega, e⟩
    obtain ⟨k1, k2⟩ := hf _ _ e3 (Or.inr (by omega))
    have e4 : acc + r * P + P * 128 * m = acc + P * (128 * m + r) := by rw [hid]; omega
    rw [hP1, e4]
    exact ⟨k1, by rw [k2, varB_len_more h1, e2]; omega⟩
  · obtain ⟨m, rfl, hk, e2⟩ := hb' n q e
    rw [hd, peel_more' hx, hr2] at e2
    obtain ⟨h1, h2, h3⟩ := e2
    refine ⟨m / 128, ?_, Or.inr (by omega), h3⟩
    have hm : m = 128 * (m / 128) + r := by omega
    rw [hP1]
    generalize m / 128 = d at *
    subst hm
    rw [hid]
    omega
theorem VarIn.last {t : ByteArray} {a k acc : Nat} (h : VarIn t a k acc) (hi : a + k < t.size) (hx : (t[a + k]).toNat < 128) (hz : k = 0 ∨ (t[a + k]).toNat ≠ 0) (hn : acc + (t[a + k]).toNat * 128 ^ k ≤ 1000000000) :
    rvOk t a = true ∧ rvV t a = acc + (t[a + k]).toNat * 128 ^ k ∧ rvE t a = a + k + 1 := by
  obtain ⟨q, hq⟩ := (peel_last (r := t.data.toList.drop (a + k + 1)) hx _).2 rfl
  have h1 : (varB (t[a + k]).toNat).length = 1 := by rw [varB_last (by omega)]; rfl
  obtain ⟨k1, k2⟩ := h.fwd _ q (by rw [drop_at hi]; exact hq) (by omega)
  rw [Nat.mul_comm] at hn ⊢
  obtain ⟨r1, r2, r3⟩ := rv_yes (t := t) (a := a) ⟨hn, q, k1⟩
  exact ⟨r1, r2, by rw [r3, k2, h1]; omega⟩
theorem VarIn.zlast {t : ByteArray} {a k acc : Nat} (h : VarIn t a k acc) (hi : a + k < t.size) (hx : (t[a + k]).toNat < 128) (hz : 0 < k ∧ (t[a + k]).toNat = 0 ∨ 1000000000 < acc + (t[a + k]).toNat * 128 ^ k) : rvOk t a = false ∧ rvV t a = 0 ∧ rvE t a = 0 := by
  refine rv_no ?_
  rintro ⟨-, n, hn, q, e⟩
  obtain ⟨m, hm, hk, e2⟩ := h.back n q e
  have := (peel_last (r := t.data.toList.drop (a + k + 1)) hx m).1 ⟨q, by rw [← drop_at hi]; exact e2⟩
  subst this
  rw [Nat.mul_comm] at hm
  omega
theorem VarIn.short {t : ByteArray} {a k acc : Nat} (h : VarIn t a k acc) (hi : t.size ≤ a + k) : rvOk t a = false ∧ rvV t a = 0 ∧ rvE t a = 0 := by
  refine rv_no ?_
  rintro ⟨-, n, hn, q, e⟩
  obtain ⟨m, hm, hk, e2⟩ := h.back n q e
  rw [List.drop_eq_nil_of_le (by rw [ba_len]; exact hi)] at e2
  exact peel_nil m ⟨q, e2⟩
theorem VarIn.long {t : ByteArray} {a acc : Nat} (h : VarIn t a 5 acc) : rvOk t a = false ∧ rvV t a = 0 ∧ rvE t a = 0 := by
  refine rv_no ?_
  rintro ⟨-, n, hn, q, e⟩
  obtain ⟨m, hm, hk, e2⟩ := h.back n q e
  have h5 : 128 ^ 5 * 1 ≤ 128 ^ 5 * m := Nat.mul_le_mul_left _ (by omega)
  have : (128 : Nat) ^ 5 = 34359738368 := by decide
  omega
theorem rv_off {t : ByteArray} {a : Int} (h : a < 0 ∨ t.size < a) : rvOk t a = false ∧ rvV t a = 0 ∧ rvE t a = 0 := by
  refine rv_no ?_
  rintro ⟨h0, n, hn⟩
  have := hn.lt
  omega
/-- what stands between a number's place and its end is its text -/
theorem var_text {t : ByteArray} {a n : Nat} (h : VarAt t a n) : t.extract a (a + (varB n).length) = varT n := by
  obtain ⟨-, q, e⟩ := h
  apply ba_ext
  rw [ba_extract, e, Nat.add_sub_cancel_left, List.take_append_of_le_length (Nat.le_refl _), List.take_length]
  rfl
theorem var_at {t : ByteArray} {a n : Nat} (hn : n ≤ 1000000000) (h : t.extract a (a + (varB n).length) = varT n) : VarAt t a n := by
  refine ⟨hn, t.data.toList.drop (a + (varB n).length), ?_⟩
  have := congrArg (fun x : ByteArray => x.data.toList) h
  rw [ba_extract, Nat.add_sub_cancel_left] at this
  rw [← List.drop_drop, show varB n = (varT n).data.toList from rfl, ← this, this]
  conv => lhs; rw [← List.take_append_drop (varB n).length (t.data.toList.drop a), this]
  rfl
open Classical in
/-- a text behind its length -/
noncomputable def rsOk (t : ByteArray) (a : Int) : Bool := rvOk t a && (decide (rvV t a ≤ 20000) && decide (rvV t a + rvE t a ≤ t.size))
noncomputable def rsT (t : ByteArray) (a : Int) : ByteArray := if rsOk t a = true then t.extract (rvE t a) (rvE t a + rvV t a) else ⟨#[]⟩
noncomputable def rsE (t : ByteArray) (a : Int) : Nat := if rsOk t a = true then rvE t a + rvV t a else 0
theorem rs_no {t : ByteArray} {a : Int} (h : rsOk t a = false) : rsT t a = ⟨#[]⟩ ∧ rsE t a = 0 := by
  rw [rsT, rsE, if_neg (by rw [h]; decide), if_neg (by rw [h]; decide)]
  exact ⟨rfl, rfl⟩
theorem rs_yes {t : ByteArray} {a : Int} (h : rsOk t a = true) : rsT t a = t.extract (rvE t a) (rvE t a + rvV t a) ∧ rsE t a = rvE t a + rvV t a := by
  rw [rsT, rsE, if_pos h, if_pos h]
  exact ⟨rfl, rfl⟩
theorem rsE_bd (t : ByteArray) (a : Int) : 0 ≤ (rsE t a : Int) ∧ (rsE t a : Int) ≤ t.size := by
  cases h : rsOk t a
  · rw [(rs_no h).2]; omega
  · rw [(rs_yes h).2]
    simp only [rsOk, Bool.and_eq_true, decide_eq_true_eq] at h
    omega
theorem rsT_le (t : ByteArray) (a : Int) : (rsT t a).size ≤ 20000 := by
  cases h : rsOk t a
  · rw [(rs_no h).1]; decide
  · rw [(rs_yes h).1, ByteArray.size_extract]
    simp only [rsOk, Bool.and_eq_true, decide_eq_true_eq] at h
    omega
/-- a part that stands in a text behind its length is read -/
theorem rs_at {t s : ByteArray} {a : Nat} {q : List UInt8} (h : t.data.toList.drop a = varB s.size ++ (s.data.toList ++ q)) (hs : s.size ≤ 20000) : rsOk t a = true ∧ rsT t a = s ∧ rsE t a = a + (varB s.size).length + s.size := by
  obtain ⟨h1, h2, h3⟩ := rv_yes (t := t) (a := a) (n := s.size) ⟨by omega, _, h⟩
  have hl := congrArg List.length h
  rw [List.length_drop, List.length_append, List.length_append, ba_len, ba_len] at hl
  have hp := varB_ne0 s.size
  have hok : rsOk t a = true := by
    rw [rsOk, h1, h2, h3, decide_eq_true hs, decide_eq_true (by omega)]; rfl
  refine ⟨hok, ?_, by rw [(rs_yes hok).2, h2, h3]⟩
  rw [(rs_yes hok).1, h2, h3]
  apply ba_ext
  rw [ba_extract, Nat.add_sub_cancel_left, ← List.drop_drop, h, List.drop_left', List.take_append_of_le_length (by rw [ba_len]; exact Nat.le_refl _), List.take_of_length_le (by rw [ba_len]; exact Nat.le_refl _)]
  rfl
/-- what is read: its length and its bytes stand there -/
theorem rs_text {t : ByteArray} {a : Nat} (h : rsOk t a = true) : t.extract a (rsE t a) = varT (rsT t a).size ++ rsT t a ∧ a ≤ rsE t a ∧ rsE t a ≤ t.size := by
  obtain ⟨e1, e2⟩ := rs_yes h
  have h' := h
  simp only [rsOk, Bool.and_eq_true, decide_eq_true_eq] at h'
  obtain ⟨h1, h2, h3⟩ := h'
  rcases rv_cases t a with ⟨n, h0, hv, -, k2, k3⟩ | ⟨k1, -, -⟩
  · rw [Int.toNat_natCast] at hv k3
    have hs : (rsT t a).size = n := by rw [e1, ByteArray.size_extract]; omega
    have hx : t.extract a (rvE t a) = varT n := by rw [k3]; exact var_text hv
    refine ⟨?_, by omega, by omega⟩
    rw [hs, e1, e2, ← hx]
    apply ba_ext
    rw [ba_append, ba_extract, ba_extract, ba_extract, show rvE t a + rvV t a - a = (rvE t a - a) + (rvE t a + rvV t a - rvE t a) by omega, List.take_add, List.drop_drop, show a + (rvE t a - a) = rvE t a by omega]
  · rw [k1] at h1; cases h1
end Go.Proofs.Ytliebkhfddmhjaa
