/- RdA. -/
import Derived.Test.YtkphipgfcbckcaaGreatDoorK12
import Derived.OwnWalk
import Derived.Deep.AppendLies
import Derived.IntWalk
namespace Go.Proofs.YtkphipgfcbckcaaGreatDoor
open Go.RowKit

theorem varB_ne0 (n : Nat) : 0 < (varB n).length := List.length_pos_iff.2 (varB_pos n)
theorem varB_len_more {n : Nat} (h : 127 < n) : (varB n).length = (varB (n / 128)).length + 1 := by rw [varB_more h, List.length_cons]
theorem peel_last {x : UInt8} {r : List UInt8} (hx : x.toNat < 128) (n : Nat) : (∃ q, x :: r = varB n ++ q) ↔ n = x.toNat := by
  constructor
  · rintro ⟨q, e⟩
    by_cases hn : 127 < n
    · rw [varB_more hn, List.cons_append, List.cons.injEq] at e
      have := congrArg UInt8.toNat e.1
      simp at this
      omega
    · rw [varB_last hn, List.cons_append, List.cons.injEq] at e
      have := congrArg UInt8.toNat e.1
      simp at this
      omega
  · rintro rfl
    exact ⟨r, by rw [varB_last (by omega)]; simp⟩
theorem peel_more {x : UInt8} {r : List UInt8} (hx : 128 ≤ x.toNat) (n : Nat) : (∃ q, x :: r = varB n ++ q) ↔ (127 < n ∧ n % 128 = x.toNat - 128 ∧ ∃ q, r = varB (n / 128) ++ q) := by
  have hb := x.toNat_lt
  constructor
  · rintro ⟨q, e⟩
    by_cases hn : 127 < n
    · rw [varB_more hn, List.cons_append, List.cons.injEq] at e
      have := congrArg UInt8.toNat e.1
      simp at this
      exact ⟨hn, by omega, q, e.2⟩
    · rw [varB_last hn, List.cons_append, List.cons.injEq] at e
      have := congrArg UInt8.toNat e.1
      simp at this
      omega
  · rintro ⟨hn, hm, q, rfl⟩
    refine ⟨q, ?_⟩
    rw [varB_more hn, List.cons_append, List.cons.injEq]
    refine ⟨?_, rfl⟩
    rw [hm, show 128 + (x.toNat - 128) = x.toNat by omega]
    simp
theorem peel_nil (n : Nat) : ¬ ∃ q, ([] : List UInt8) = varB n ++ q := by
  rintro ⟨q, e⟩
  exact varB_pos n (List.append_eq_nil_iff.1 e.symm).1
/-- does a number stand at a place? -/
def VarAt (t : ByteArray) (a n : Nat) : Prop := n ≤ 1000000000 ∧ ∃ q, t.data.toList.drop a = varB n ++ q
theorem VarAt.one {t : ByteArray} {a n m : Nat} (h : VarAt t a n) (k : VarAt t a m) : n = m := by
  obtain ⟨-, q, e⟩ := h
  obtain ⟨-, q', e'⟩ := k
  exact (var_inj n m q q' (e.symm.trans e')).1
open Classical in
noncomputable def rvOk (t : ByteArray) (a : Int) : Bool := decide (0 ≤ a ∧ ∃ n, VarAt t a.toNat n)
open Classical in
noncomputable def rvV (t : ByteArray) (a : Int) : Nat := if h : 0 ≤ a ∧ ∃ n, VarAt t a.toNat n then h.2.choose else 0
noncomputable def rvE (t : ByteArray) (a : Int) : Nat := if rvOk t a = true then a.toNat + (varB (rvV t a)).length else 0
theorem rv_yes {t : ByteArray} {a n : Nat} (h : VarAt t a n) : rvOk t a = true ∧ rvV t a = n ∧ rvE t a = a + (varB n).length := by
  have hx : 0 ≤ (a : Int) ∧ ∃ n, VarAt t (a : Int).toNat n := ⟨by omega, n, h⟩
  have h1 : rvOk t a = true := by simp only [rvOk, decide_eq_true_eq]; exact hx
  have h2 : rvV t a = n := by rw [rvV, dif_pos hx]; exact VarAt.one hx.2.choose_spec h
  exact ⟨h1, h2, by rw [rvE, if_pos h1, h2]; rfl⟩
theorem rv_no {t : ByteArray} {a : Int} (h : ¬ (0 ≤ a ∧ ∃ n, VarAt t a.toNat n)) : rvOk t a = false ∧ rvV t a = 0 ∧ rvE t a = 0 := by
  have h1 : rvOk t a = false := by simp only [rvOk, decide_eq_false_iff_not]; exact h
  exact ⟨h1, by rw [rvV, dif_neg h], by rw [rvE, if_neg (by rw [h1]; decide)]⟩
theorem rv_cases (t : ByteArray) (a : Int) : (∃ n, 0 ≤ a ∧ VarAt t a.toNat n ∧ rvOk t a = true ∧ rvV t a = n ∧ rvE t a = a.toNat + (varB n).length) ∨ (rvOk t a = false ∧ rvV t a = 0 ∧ rvE t a = 0) := by
  by_cases h : 0 ≤ a ∧ ∃ n, VarAt t a.toNat n
  · left
    obtain ⟨h0, n, h⟩ := h
    have := rv_yes h
    rw [Int.toNat_of_nonneg h0] at this
    exact ⟨n, h0, h, this⟩
  · exact Or.inr (rv_no h)
theorem VarAt.lt {t : ByteArray} {a n : Nat} (h : VarAt t a n) : a + (varB n).length ≤ t.size := by
  obtain ⟨-, q, e⟩ := h
  have h1 := congrArg List.length e
  rw [List.length_drop, List.length_append, ba_len] at h1
  have := varB_ne0 n
  omega
theorem rvE_bd (t : ByteArray) (a : Int) : 0 ≤ (rvE t a : Int) ∧ (rvE t a : Int) ≤ t.size := by
  rcases rv_cases t a with ⟨n, h0, h, -, -, e⟩ | ⟨-, -, e⟩
  · have := h.lt; omega
  · omega
theorem rvV_bd (t : ByteArray) (a : Int) : rvV t a ≤ 1000000000 := by
  rcases rv_cases t a with ⟨n, h0, h, -, e, -⟩ | ⟨-, e, -⟩
  · rw [e]; exact h.1
  · omega
/-- k bytes of a number were read: acc is what they say -/
structure VarIn (t : ByteArray) (a k acc : Nat) : Prop where
  lt : acc < 128 ^ k
  fwd : ∀ m q, t.data.toList.drop (a + k) = varB m ++ q → (k = 0 ∨ 0 < m) → t.data.toList.drop a = varB (acc + 128 ^ k * m) ++ q ∧ (varB (acc + 128 ^ k * m)).length = k + (varB m).length
  back : ∀ n q, t.data.toList.drop a = varB n ++ q → ∃ m, n = acc + 128 ^ k * m ∧ (k = 0 ∨ 0 < m) ∧ t.data.toList.drop (a + k) = varB m ++ q
theorem VarIn.zero (t : ByteArray) (a : Nat) : VarIn t a 0 0 := by
  refine ⟨by simp, fun m q h _ => ?_, fun n q h => ⟨n, by simp, Or.inl rfl, by simpa using h⟩⟩
  simpa using h
theorem drop_at {t : ByteArray} {i : Nat} (h : i < t.size) : t.data.toList.drop i = t[i] :: t.data.toList.drop (i + 1) := by
  have hl : i < t.data.toList.length := by rw [ba_len]; exact h
  rw [List.drop_eq_getElem_cons hl]
  rfl
theorem peel_more' {x : UInt8} {r q : List UInt8} (hx : 128 ≤ x.toNat) (n : Nat) : x :: r = varB n ++ q ↔ (127 < n ∧ n % 128 = x.toNat - 128 ∧ r = varB (n / 128) ++ q) := by
  constructor
  · intro e
    have := (peel_more (r := r) hx n).1 ⟨q, e⟩
    refine ⟨this.1, this.2.1, ?_⟩
    rw [varB_more this.1, List.cons_append, List.cons.injEq] at e
    exact e.2
  · rintro ⟨hn, hm, rfl⟩
    have hb := x.toNat_lt
    rw [varB_more hn, List.cons_append, List.cons.injEq]
    refine ⟨?_, rfl⟩
    rw [hm, show 128 + (x.toNat - 128) = x.toNat by omega]
    simp
theorem VarIn.more {t : ByteArray} {a k acc : Nat} (h : VarIn t a k acc) (hi : a + k < t.size) (hx : 128 ≤ (t[a + k]).toNat) : VarIn t a (k + 1) (acc + (t[a + k]).toNat % 128 * 128 ^ k) := by
  obtain ⟨hacc, hf, hb'⟩ := h
  have hb := (t[a + k]).toNat_lt
  have hd := drop_at hi
  generalize t[a + k] = x at *
  generalize hP : 128 ^ k = P at *
  have hP1 : 128 ^ (k + 1) = P * 128 := by rw [Nat.pow_succ, hP]
  obtain ⟨r, hr, hle⟩ : ∃ r, x.toNat % 128 = r ∧ r ≤ 127 := ⟨_, rfl, by omega⟩
  have hr2 : x.toNat - 128 = r := by omega
  rw [hr]
  have hmul : r * P ≤ 127 * P := Nat.mul_le_mul_right P hle
  have hid : ∀ m, P * (128 * m + r) = P * 128 * m + r * P := fun m => by rw [Nat.mul_add, ← Nat.mul_assoc, Nat.mul_comm P r]
  refine ⟨by rw [hP1]; omega, fun m q e hm => ?_, fun n q e => ?_⟩
  · have hm0 : 0 < m := by rcases hm with hm | hm <;> omega
    have h1 : 127 < 128 * m + r := by omega
    have e2 : (128 * m + r) / 128 = m := by omega
    have e3 : t.data.toList.drop (a + k) = varB (128 * m + r) ++ q := by
      rw [hd, peel_more' hx, e2, hr2]
      exact ⟨h1, by omega, e⟩
    obtain ⟨k1, k2⟩ := hf _ _ e3 (Or.inr (by omega))
    have e4 : acc + r * P + P * 128 * m = acc + P * (128 * m + r) := by rw [hid]; omega
    rw [hP1, e4]
    exact ⟨k1, by rw [k2, varB_len_more h1, e2]; omega⟩
  · obtain ⟨m, rfl, hk, e2⟩ := hb' n q e
    rw [hd, peel_more' hx, hr2] at e2
    obtain ⟨h1, h2, h3⟩ := e2
    refine ⟨m / 128, ?_, Or.inr (by omega), h3⟩
    have hm : m = 128 * (m / 128) + r := by omega
    rw [hP1]
    generalize m / 128 = d at *
    subst hm
    rw [hid]
    omega
theorem VarIn.last {t : ByteArray} {a k acc : Nat} (h : VarIn t a k acc) (hi : a + k < t.size) (hx : (t[a + k]).toNat < 128) (hz : k = 0 ∨ (t[a + k]).toNat ≠ 0) (hn : acc + (t[a + k]).toNat * 128 ^ k ≤ 1000000000) :
    rvOk t a = true ∧ rvV t a = acc + (t[a + k]).toNat * 128 ^ k ∧ rvE t a = a + k + 1 := by
  obtain ⟨q, hq⟩ := (peel_last (r := t.data.toList.drop (a + k + 1)) hx _).2 rfl
  have h1 : (varB (t[a + k]).toNat).length = 1 := by rw [varB_last (by omega)]; rfl
  obtain ⟨k1, k2⟩ := h.fwd _ q (by rw [drop_at hi]; exact hq) (by omega)
  rw [Nat.mul_comm] at hn ⊢
  obtain ⟨r1, r2, r3⟩ := rv_yes (t := t) (a := a) ⟨hn, q, k1⟩
  exact ⟨r1, r2, by rw [r3, k2, h1]; omega⟩
theorem VarIn.zlast {t : ByteArray} {a k acc : Nat} (h : VarIn t a k acc) (hi : a + k < t.size) (hx : (t[a + k]).toNat < 128) (hz : 0 < k ∧ (t[a + k]).toNat = 0 ∨ 1000000000 < acc + (t[a + k]).toNat * 128 ^ k) : rvOk t a = false ∧ rvV t a = 0 ∧ rvE t a = 0 := by
  refine rv_no ?_
  rintro ⟨-, n, hn, q, e⟩
  obtain ⟨m, hm, hk, e2⟩ := h.back n q e
  have := (peel_last (r := t.data.toList.drop (a + k + 1)) hx m).1 ⟨q, by rw [← drop_at hi]; exact e2⟩
  subst this
  rw [Nat.mul_comm] at hm
  omega
theorem VarIn.short {t : ByteArray} {a k acc : Nat} (h : VarIn t a k acc) (hi : t.size ≤ a + k) : rvOk t a = false ∧ rvV t a = 0 ∧ rvE t a = 0 := by
  refine rv_no ?_
  rintro ⟨-, n, hn, q, e⟩
  obtain ⟨m, hm, hk, e2⟩ := h.back n q e
  rw [List.drop_eq_nil_of_le (by rw [ba_len]; exact hi)] at e2
  exact peel_nil m ⟨q, e2⟩
theorem VarIn.long {t : ByteArray} {a acc : Nat} (h : VarIn t a 5 acc) : rvOk t a = false ∧ rvV t a = 0 ∧ rvE t a = 0 := by
  refine rv_no ?_
  rintro ⟨-, n, hn, q, e⟩
  obtain ⟨m, hm, hk, e2⟩ := h.back n q e
  have h5 : 128 ^ 5 * 1 ≤ 128 ^ 5 * m := Nat.mul_le_mul_left _ (by omega)
  have : (128 : Nat) ^ 5 = 34359738368 := by decide
  omega
theorem rv_off {t : ByteArray} {a : Int} (h : a < 0 ∨ t.size < a) : rvOk t a = false ∧ rvV t a = 0 ∧ rvE t a = 0 := by
  refine rv_no ?_
  rintro ⟨h0, n, hn⟩
  have := hn.lt
  omega
/-- what stands between a number's place and its end is its text -/
theorem var_text {t : ByteArray} {a n : Nat} (h : VarAt t a n) : t.extract a (a + (varB n).length) = varT n := by
  obtain ⟨-, q, e⟩ := h
  apply ba_ext
  rw [ba_extract, e, Nat.add_sub_cancel_left, List.take_append_of_le_length (Nat.le_refl _), List.take_length]
  rfl
theorem var_at {t : ByteArray} {a n : Nat} (hn : n ≤ 1000000000) (h : t.extract a (a + (varB n).length) = varT n) : VarAt t a n := by
  refine ⟨hn, t.data.toList.drop (a + (varB n).length), ?_⟩
  have := congrArg (fun x : ByteArray => x.data.toList) h
  rw [ba_extract, Nat.add_sub_cancel_left] at this
  rw [← List.drop_drop, show varB n = (varT n).data.toList from rfl, ← this, this]
  conv => lhs; rw [← List.take_append_drop (varB n).length (t.data.toList.drop a), this]
  rfl
open Classical in
/-- a text behind its length -/
noncomputable def rsOk (t : ByteArray) (a : Int) : Bool := rvOk t a && (decide (rvV t a ≤ 20000) && decide (rvV t a + rvE t a ≤ t.size))
noncomputable def rsT (t : ByteArray) (a : Int) : ByteArray := if rsOk t a = true then t.extract (rvE t a) (rvE t a + rvV t a) else ⟨#[]⟩
noncomputable def rsE (t : ByteArray) (a : Int) : Nat := if rsOk t a = true then rvE t a + rvV t a else 0
theorem rs_no {t : ByteArray} {a : Int} (h : rsOk t a = false) : rsT t a = ⟨#[]⟩ ∧ rsE t a = 0 := by
  rw [rsT, rsE, if_neg (by rw [h]; decide), if_neg (by rw [h]; decide)]
  exact ⟨rfl, rfl⟩
theorem rs_yes {t : ByteArray} {a : Int} (h : rsOk t a = true) : rsT t a = t.extract (rvE t a) (rvE t a + rvV t a) ∧ rsE t a = rvE t a + rvV t a := by
  rw [rsT, rsE, if_pos h, if_pos h]
  exact ⟨rfl, rfl⟩
theorem rsE_bd (t : ByteArray) (a : Int) : 0 ≤ (rsE t a : Int) ∧ (rsE t a : Int) ≤ t.size := by
  cases h : rsOk t a
  · rw [(rs_no h).2]; omega
  · rw [(rs_yes h).2]
    simp only [rsOk, Bool.and_eq_true, decide_eq_true_eq] at h
    omega
theorem rsT_le (t : ByteArray) (a : Int) : (rsT t a).size ≤ 20000 := by
  cases h : rsOk t a
  · rw [(rs_no h).1]; decide
  · rw [(rs_yes h).1, ByteArray.size_extract]
    simp only [rsOk, Bool.and_eq_true, decide_eq_true_eq] at h
    omega
/-- what is read: its length and its bytes stand there -/
theorem rs_text {t : ByteArray} {a : Nat} (h : rsOk t a = true) : t.extract a (rsE t a) = varT (rsT t a).size ++ rsT t a ∧ a ≤ rsE t a ∧ rsE t a ≤ t.size := by
  obtain ⟨e1, e2⟩ := rs_yes h
  have h' := h
  simp only [rsOk, Bool.and_eq_true, decide_eq_true_eq] at h'
  obtain ⟨h1, h2, h3⟩ := h'
  rcases rv_cases t a with ⟨n, h0, hv, -, k2, k3⟩ | ⟨k1, -, -⟩
  · rw [Int.toNat_natCast] at hv k3
    have hs : (rsT t a).size = n := by rw [e1, ByteArray.size_extract]; omega
    have hx : t.extract a (rvE t a) = varT n := by rw [k3]; exact var_text hv
    refine ⟨?_, by omega, by omega⟩
    rw [hs, e1, e2, ← hx]
    apply ba_ext
    rw [ba_append, ba_extract, ba_extract, ba_extract, show rvE t a + rvV t a - a = (rvE t a - a) + (rvE t a + rvV t a - rvE t a) by omega, List.take_add, List.drop_drop, show a + (rvE t a - a) = rvE t a by omega]
  · rw [k1] at h1; cases h1
end Go.Proofs.YtkphipgfcbckcaaGreatDoor
namespace Go.Proofs.YtkphipgfcbckcaaGreatDoor
open Go.RowKit

theorem ret_rv {t : ByteArray} {a : Int} {v e : Int} {o : Bool} (h : rvOk t a = o ∧ (rvV t a : Int) = v ∧ (rvE t a : Int) = e) : Ending.returned (.tuple #[.int .i64 v, .int .i64 e, .bool o]) = .returned (.tuple #[.int .i64 (rvV t a), .int .i64 (rvE t a), .bool (rvOk t a)]) := by rw [h.1, h.2.1, h.2.2]
theorem ret_no {t : ByteArray} {a : Int} (h : rvOk t a = false ∧ rvV t a = 0 ∧ rvE t a = 0) : Ending.returned (.tuple #[.int .i64 0, .int .i64 0, .bool false]) = .returned (.tuple #[.int .i64 (rvV t a), .int .i64 (rvE t a), .bool (rvOk t a)]) := ret_rv ⟨h.1, by rw [h.2.1]; rfl, by rw [h.2.2]; rfl⟩
set_option maxRecDepth 100000 in
set_option maxHeartbeats 6400000 in
theorem impl_ReadVar (t : ByteArray) (a : Int) (w : World) (hs : t.size ≤ 1099511627776) :
    Calls Tryz.prog 103 #[.string t, .int .i64 a] w fun e w' => e = .returned (.tuple #[.int .i64 (rvV t a), .int .i64 (rvE t a), .bool (rvOk t a)]) ∧ w = w' := by
  by_cases hin : 0 ≤ a ∧ a ≤ t.size
  · have HI := Lib.hid (inB_true.2 hin)
    obtain ⟨h0, h1⟩ := hin
    obtain ⟨a, rfl⟩ := Int.eq_ofNat_of_zero_le h0
    go_enter Tryz.func103, Tryz.ntmps103
    go_wp2_with (go_at_call 53; refine (impl_in _ _ _ _).mono ?_; rw [HI.out]; rintro e w' ⟨rfl, rfl⟩)
    go_loop [7, 8, 9] (fun n k _ => ∃ k' acc : Nat, k' ≤ 5 ∧ k = .int .i64 k' ∧ n = .int .i64 acc ∧ VarIn t a k' acc) (fun _ k _ => 5 - (intOf k).toNat)
    case atStart => exact ⟨0, 0, by omega, rfl, rfl, VarIn.zero t a⟩
    case round =>
      obtain ⟨k, acc, hk, rfl, rfl, hv⟩ := hrel
      have hacc := hv.lt
      have HV := Lib.hid hv
      clear hv
      by_cases hlt : k < 5
      · by_cases hi : a + k < t.size
        · have hb := (t[a + k]).toNat_lt
          rcases (show k = 0 ∨ k = 1 ∨ k = 2 ∨ k = 3 ∨ k = 4 by omega) with rfl | rfl | rfl | rfl | rfl
          · have HM : Hid (128 ≤ (t[a]).toNat → VarIn t a 1 (acc + (t[a]).toNat % 128 * 128 ^ 0)) := Lib.hid (fun h => HV.out.more hi h)
            have HL : Hid ((t[a]).toNat < 128 → (0 = 0 ∨ (t[a]).toNat ≠ 0) → acc + (t[a]).toNat * 1 ≤ 1000000000 → rvOk t a = true ∧ rvV t a = acc + (t[a]).toNat * 1 ∧ rvE t a = a + 0 + 1) := Lib.hid (fun h1 h2 h3 => HV.out.last hi h1 h2 h3)
            have HZ : Hid ((t[a]).toNat < 128 → (0 < 0 ∧ (t[a]).toNat = 0 ∨ 1000000000 < acc + (t[a]).toNat * 1) → rvOk t a = false ∧ rvV t a = 0 ∧ rvE t a = 0) := Lib.hid (fun h1 h2 => HV.out.zlast hi h1 h2)
            clear HV
            have hA : acc < 1 := by simpa using hacc
            have hi' : (a : Int) < t.size := by omega
            have hyb : (t[a]).toNat < 256 := hb
            have hw1 := wrap64_byte (t[a])
            have hn0 : (0 : Int) ≤ (t[a]).toNat := by omega
            clear hacc hb HI
            by_cases hx : (t[a]).toNat < 128
            · by_cases hz : (0 < 0 ∧ (t[a]).toNat = 0) ∨ 1000000000 < acc + (t[a]).toNat * 1
              · have HN := Lib.hid (HZ.out hx hz)
                have hz0 := hz
                have HZ0 := Lib.hid hz
                clear hz HM HL HZ
                exfalso; have := HZ0.out; omega
              · have HN := Lib.hid (HL.out hx (by omega) (by omega))
                have HZ0 := Lib.hid hz
                clear hz HM HL HZ
                go_wp2
                all_goals have hz := HZ0.out
                all_goals first | (exfalso; omega) | skip
                all_goals go_ret3
                all_goals exact ⟨ret_rv ⟨HN.out.1, by rw [HN.out.2.1]; first | (simp; done) | (simp; omega), by rw [HN.out.2.2]; first | (simp; done) | (simp; omega)⟩, rfl⟩
            · have HN := Lib.hid (HM.out (by omega))
              clear HM HL HZ
              go_wp2
              all_goals first | (exfalso; omega) | skip
              go_round
              case rel => exact ⟨1, acc + (t[a]).toNat % 128 * 128 ^ 0, by omega, by go_num, by go_num, HN.out⟩
              case measure => simp [intOf]
          · have HM : Hid (128 ≤ (t[a + 1]).toNat → VarIn t a 2 (acc + (t[a + 1]).toNat % 128 * 128 ^ 1)) := Lib.hid (fun h => HV.out.more hi h)
            have HL : Hid ((t[a + 1]).toNat < 128 → (1 = 0 ∨ (t[a + 1]).toNat ≠ 0) → acc + (t[a + 1]).toNat * 128 ≤ 1000000000 → rvOk t a = true ∧ rvV t a = acc + (t[a + 1]).toNat * 128 ∧ rvE t a = a + 1 + 1) := Lib.hid (fun h1 h2 h3 => HV.out.last hi h1 h2 h3)
            have HZ : Hid ((t[a + 1]).toNat < 128 → (0 < 1 ∧ (t[a + 1]).toNat = 0 ∨ 1000000000 < acc + (t[a + 1]).toNat * 128) → rvOk t a = false ∧ rvV t a = 0 ∧ rvE t a = 0) := Lib.hid (fun h1 h2 => HV.out.zlast hi h1 h2)
            clear HV
            have hA : acc < 128 := by simpa using hacc
            have hi' : (a : Int) + 1 < t.size := by omega
            have hyb : (t[a + 1]).toNat < 256 := hb
            have hw1 := wrap64_byte (t[a + 1])
            have hn0 : (0 : Int) ≤ (t[a + 1]).toNat := by omega
            clear hacc hb HI
            by_cases hx : (t[a + 1]).toNat < 128
            · by_cases hz : (0 < 1 ∧ (t[a + 1]).toNat = 0) ∨ 1000000000 < acc + (t[a + 1]).toNat * 128
              · have HN := Lib.hid (HZ.out hx hz)
                have hz0 := hz
                have HZ0 := Lib.hid hz
                clear hz HM HL HZ
                rcases (show (t[a + 1]).toNat = 0 ∨ ((t[a + 1]).toNat ≠ 0 ∧ 1000000000 < acc + (t[a + 1]).toNat * 128) by omega) with hz1 | ⟨hz1, hz2⟩
                all_goals clear hz0
                · have hz3 : ((t[a + 1]).toNat : Int) = 0 := by omega
                  clear hz1
                  go_wp2
                  go_ret3
                  exact ⟨ret_no HN.out, rfl⟩
                · have HZ2 := Lib.hid hz2
                  clear hz2
                  go_wp2
                  all_goals have hz2 := HZ2.out
                  all_goals first | (exfalso; omega) | skip
                  all_goals go_ret3
                  all_goals exact ⟨ret_no HN.out, rfl⟩
              · have HN := Lib.hid (HL.out hx (by omega) (by omega))
                have HZ0 := Lib.hid hz
                clear hz HM HL HZ
                go_wp2
                all_goals have hz := HZ0.out
                all_goals first | (exfalso; omega) | skip
                all_goals go_ret3
                all_goals exact ⟨ret_rv ⟨HN.out.1, by rw [HN.out.2.1]; first | (simp; done) | (simp; omega), by rw [HN.out.2.2]; first | (simp; done) | (simp; omega)⟩, rfl⟩
            · have HN := Lib.hid (HM.out (by omega))
              clear HM HL HZ
              go_wp2
              all_goals first | (exfalso; omega) | skip
              go_round
              case rel => exact ⟨2, acc + (t[a + 1]).toNat % 128 * 128 ^ 1, by omega, by go_num, by go_num, HN.out⟩
              case measure => simp [intOf]
          · have HM : Hid (128 ≤ (t[a + 2]).toNat → VarIn t a 3 (acc + (t[a + 2]).toNat % 128 * 128 ^ 2)) := Lib.hid (fun h => HV.out.more hi h)
            have HL : Hid ((t[a + 2]).toNat < 128 → (2 = 0 ∨ (t[a + 2]).toNat ≠ 0) → acc + (t[a + 2]).toNat * 16384 ≤ 1000000000 → rvOk t a = true ∧ rvV t a = acc + (t[a + 2]).toNat * 16384 ∧ rvE t a = a + 2 + 1) := Lib.hid (fun h1 h2 h3 => HV.out.last hi h1 h2 h3)
            have HZ : Hid ((t[a + 2]).toNat < 128 → (0 < 2 ∧ (t[a + 2]).toNat = 0 ∨ 1000000000 < acc + (t[a + 2]).toNat * 16384) → rvOk t a = false ∧ rvV t a = 0 ∧ rvE t a = 0) := Lib.hid (fun h1 h2 => HV.out.zlast hi h1 h2)
            clear HV
            have hA : acc < 16384 := by simpa using hacc
            have hi' : (a : Int) + 2 < t.size := by omega
            have hyb : (t[a + 2]).toNat < 256 := hb
            have hw1 := wrap64_byte (t[a + 2])
            have hn0 : (0 : Int) ≤ (t[a + 2]).toNat := by omega
            clear hacc hb HI
            by_cases hx : (t[a + 2]).toNat < 128
            · by_cases hz : (0 < 2 ∧ (t[a + 2]).toNat = 0) ∨ 1000000000 < acc + (t[a + 2]).toNat * 16384
              · have HN := Lib.hid (HZ.out hx hz)
                have hz0 := hz
                have HZ0 := Lib.hid hz
                clear hz HM HL HZ
                rcases (show (t[a + 2]).toNat = 0 ∨ ((t[a + 2]).toNat ≠ 0 ∧ 1000000000 < acc + (t[a + 2]).toNat * 16384) by omega) with hz1 | ⟨hz1, hz2⟩
                all_goals clear hz0
                · have hz3 : ((t[a + 2]).toNat : Int) = 0 := by omega
                  clear hz1
                  go_wp2
                  go_ret3
                  exact ⟨ret_no HN.out, rfl⟩
                · have HZ2 := Lib.hid hz2
                  clear hz2
                  go_wp2
                  all_goals have hz2 := HZ2.out
                  all_goals first | (exfalso; omega) | skip
                  all_goals go_ret3
                  all_goals exact ⟨ret_no HN.out, rfl⟩
              · have HN := Lib.hid (HL.out hx (by omega) (by omega))
                have HZ0 := Lib.hid hz
                clear hz HM HL HZ
                go_wp2
                all_goals have hz := HZ0.out
                all_goals first | (exfalso; omega) | skip
                all_goals go_ret3
                all_goals exact ⟨ret_rv ⟨HN.out.1, by rw [HN.out.2.1]; first | (simp; done) | (simp; omega), by rw [HN.out.2.2]; first | (simp; done) | (simp; omega)⟩, rfl⟩
            · have HN := Lib.hid (HM.out (by omega))
              clear HM HL HZ
              go_wp2
              all_goals first | (exfalso; omega) | skip
              go_round
              case rel => exact ⟨3, acc + (t[a + 2]).toNat % 128 * 128 ^ 2, by omega, by go_num, by go_num, HN.out⟩
              case measure => simp [intOf]
          · have HM : Hid (128 ≤ (t[a + 3]).toNat → VarIn t a 4 (acc + (t[a + 3]).toNat % 128 * 128 ^ 3)) := Lib.hid (fun h => HV.out.more hi h)
            have HL : Hid ((t[a + 3]).toNat < 128 → (3 = 0 ∨ (t[a + 3]).toNat ≠ 0) → acc + (t[a + 3]).toNat * 2097152 ≤ 1000000000 → rvOk t a = true ∧ rvV t a = acc + (t[a + 3]).toNat * 2097152 ∧ rvE t a = a + 3 + 1) := Lib.hid (fun h1 h2 h3 => HV.out.last hi h1 h2 h3)
            have HZ : Hid ((t[a + 3]).toNat < 128 → (0 < 3 ∧ (t[a + 3]).toNat = 0 ∨ 1000000000 < acc + (t[a + 3]).toNat * 2097152) → rvOk t a = false ∧ rvV t a = 0 ∧ rvE t a = 0) := Lib.hid (fun h1 h2 => HV.out.zlast hi h1 h2)
            clear HV
            have hA : acc < 2097152 := by simpa using hacc
            have hi' : (a : Int) + 3 < t.size := by omega
            have hyb : (t[a + 3]).toNat < 256 := hb
            have hw1 := wrap64_byte (t[a + 3])
            have hn0 : (0 : Int) ≤ (t[a + 3]).toNat := by omega
            clear hacc hb HI
            by_cases hx : (t[a + 3]).toNat < 128
            · by_cases hz : (0 < 3 ∧ (t[a + 3]).toNat = 0) ∨ 1000000000 < acc + (t[a + 3]).toNat * 2097152
              · have HN := Lib.hid (HZ.out hx hz)
                have hz0 := hz
                have HZ0 := Lib.hid hz
                clear hz HM HL HZ
                rcases (show (t[a + 3]).toNat = 0 ∨ ((t[a + 3]).toNat ≠ 0 ∧ 1000000000 < acc + (t[a + 3]).toNat * 2097152) by omega) with hz1 | ⟨hz1, hz2⟩
                all_goals clear hz0
                · have hz3 : ((t[a + 3]).toNat : Int) = 0 := by omega
                  clear hz1
                  go_wp2
                  go_ret3
                  exact ⟨ret_no HN.out, rfl⟩
                · have HZ2 := Lib.hid hz2
                  clear hz2
                  go_wp2
                  all_goals have hz2 := HZ2.out
                  all_goals first | (exfalso; omega) | skip
                  all_goals go_ret3
                  all_goals exact ⟨ret_no HN.out, rfl⟩
              · have HN := Lib.hid (HL.out hx (by omega) (by omega))
                have HZ0 := Lib.hid hz
                clear hz HM HL HZ
                go_wp2
                all_goals have hz := HZ0.out
                all_goals first | (exfalso; omega) | skip
                all_goals go_ret3
                all_goals exact ⟨ret_rv ⟨HN.out.1, by rw [HN.out.2.1]; first | (simp; done) | (simp; omega), by rw [HN.out.2.2]; first | (simp; done) | (simp; omega)⟩, rfl⟩
            · have HN := Lib.hid (HM.out (by omega))
              clear HM HL HZ
              go_wp2
              all_goals first | (exfalso; omega) | skip
              go_round
              case rel => exact ⟨4, acc + (t[a + 3]).toNat % 128 * 128 ^ 3, by omega, by go_num, by go_num, HN.out⟩
              case measure => simp [intOf]
          · have HM : Hid (128 ≤ (t[a + 4]).toNat → VarIn t a 5 (acc + (t[a + 4]).toNat % 128 * 128 ^ 4)) := Lib.hid (fun h => HV.out.more hi h)
            have HL : Hid ((t[a + 4]).toNat < 128 → (4 = 0 ∨ (t[a + 4]).toNat ≠ 0) → acc + (t[a + 4]).toNat * 268435456 ≤ 1000000000 → rvOk t a = true ∧ rvV t a = acc + (t[a + 4]).toNat * 268435456 ∧ rvE t a = a + 4 + 1) := Lib.hid (fun h1 h2 h3 => HV.out.last hi h1 h2 h3)
            have HZ : Hid ((t[a + 4]).toNat < 128 → (0 < 4 ∧ (t[a + 4]).toNat = 0 ∨ 1000000000 < acc + (t[a + 4]).toNat * 268435456) → rvOk t a = false ∧ rvV t a = 0 ∧ rvE t a = 0) := Lib.hid (fun h1 h2 => HV.out.zlast hi h1 h2)
            clear HV
            have hA : acc < 268435456 := by simpa using hacc
            have hi' : (a : Int) + 4 < t.size := by omega
            have hyb : (t[a + 4]).toNat < 256 := hb
            have hw1 := wrap64_byte (t[a + 4])
            have hn0 : (0 : Int) ≤ (t[a + 4]).toNat := by omega
            clear hacc hb HI
            by_cases hx : (t[a + 4]).toNat < 128
            · by_cases hz : (0 < 4 ∧ (t[a + 4]).toNat = 0) ∨ 1000000000 < acc + (t[a + 4]).toNat * 268435456
              · have HN := Lib.hid (HZ.out hx hz)
                have hz0 := hz
                have HZ0 := Lib.hid hz
                clear hz HM HL HZ
                rcases (show (t[a + 4]).toNat = 0 ∨ ((t[a + 4]).toNat ≠ 0 ∧ 1000000000 < acc + (t[a + 4]).toNat * 268435456) by omega) with hz1 | ⟨hz1, hz2⟩
                all_goals clear hz0
                · have hz3 : ((t[a + 4]).toNat : Int) = 0 := by omega
                  clear hz1
                  go_wp2
                  go_ret3
                  exact ⟨ret_no HN.out, rfl⟩
                · have HZ2 := Lib.hid hz2
                  clear hz2
                  go_wp2
                  all_goals have hz2 := HZ2.out
                  all_goals first | (exfalso; omega) | skip
                  all_goals go_ret3
                  all_goals exact ⟨ret_no HN.out, rfl⟩
              · have HN := Lib.hid (HL.out hx (by omega) (by omega))
                have HZ0 := Lib.hid hz
                clear hz HM HL HZ
                go_wp2
                all_goals have hz := HZ0.out
                all_goals first | (exfalso; omega) | skip
                all_goals go_ret3
                all_goals exact ⟨ret_rv ⟨HN.out.1, by rw [HN.out.2.1]; first | (simp; done) | (simp; omega), by rw [HN.out.2.2]; first | (simp; done) | (simp; omega)⟩, rfl⟩
            · have HN := Lib.hid (HM.out (by omega))
              clear HM HL HZ
              go_wp2
              all_goals first | (exfalso; omega) | skip
              go_round
              case rel => exact ⟨5, acc + (t[a + 4]).toNat % 128 * 128 ^ 4, by omega, by go_num, by go_num, HN.out⟩
              case measure => simp [intOf]
        · have HN := Lib.hid (HV.out.short (by omega))
          have hi' : ¬ (a : Int) + k < t.size := by omega
          have hk5 : (k : Int) < 5 := by omega
          have hd : decide ((a : Int) + k < t.size) = false := by simpa using hi'
          go_wp2
          all_goals first | (exfalso; omega) | skip
          go_ret3
          exact ⟨ret_no HN.out, rfl⟩
      · obtain rfl : k = 5 := by omega
        have HN := Lib.hid HV.out.long
        go_wp2
        go_ret3
        exact ⟨ret_no HN.out, rfl⟩
  · have hno := rv_off (t := t) (a := a) (by omega)
    have HI := Lib.hid (show inB a 0 t.size = false from inB_false.2 (by omega))
    have HN := Lib.hid hno
    clear hno hin
    go_enter Tryz.func103, Tryz.ntmps103
    go_wp2_with (go_at_call 53; refine (impl_in _ _ _ _).mono ?_; rw [HI.out]; rintro e w' ⟨rfl, rfl⟩)
    go_ret3
    exact ⟨ret_no HN.out, rfl⟩
theorem ret_rs {t : ByteArray} {a : Int} {s : ByteArray} {e : Int} {o : Bool} (h1 : rsT t a = s) (h2 : (rsE t a : Int) = e) : Ending.returned (.tuple #[.string s, .int .i64 e, .bool o]) = .returned (.tuple #[.string (rsT t a), .int .i64 (rsE t a), .bool o]) := by rw [h1, h2]
set_option maxHeartbeats 1600000 in
theorem impl_ReadShort (t : ByteArray) (a : Int) (w : World) (hs : t.size ≤ 1099511627776) :
    Calls Tryz.prog 92 #[.string t, .int .i64 a] w fun e w' => e = .returned (.tuple #[.string (rsT t a), .int .i64 (rsE t a), .bool (rsOk t a)]) ∧ w = w' := by
  have hv := rvV_bd t a
  have he := rvE_bd t a
  cases h : rsOk t a
  · obtain ⟨r1, r2⟩ := rs_no h
    have hc : rvOk t a = false ∨ 20000 < rvV t a ∨ t.size < rvV t a + rvE t a := by
      simp only [rsOk, Bool.and_eq_false_iff, decide_eq_false_iff_not] at h
      rcases h with h | h | h
      · exact Or.inl h
      · exact Or.inr (Or.inl (by omega))
      · exact Or.inr (Or.inr (by omega))
    have HR := Lib.hid (show rsOk t a = false ∧ rsT t a = ⟨#[]⟩ ∧ (rsE t a : Int) = 0 from ⟨h, r1, by rw [r2]; rfl⟩)
    clear h r1 r2
    cases hk : rvOk t a
    · have HK := Lib.hid hk
      clear hk hc
      go_enter Tryz.func92, Tryz.ntmps92
      go_wp2_with fail
      refine (impl_ReadVar t a _ hs).mono ?_
      rw [HK.out]
      rintro e w' ⟨rfl, rfl⟩
      go_wp2
      go_ret3
      exact ⟨ret_rs HR.out.2.1 HR.out.2.2, rfl⟩
    · have HK := Lib.hid hk
      rw [hk] at hc
      have hc' : 20000 < rvV t a ∨ t.size < rvV t a + rvE t a := by rcases hc with hc | hc; cases hc; exact hc
      clear hk hc
      go_enter Tryz.func92, Tryz.ntmps92
      go_wp2_with fail
      refine (impl_ReadVar t a _ hs).mono ?_
      rw [HK.out]
      rintro e w' ⟨rfl, rfl⟩
      generalize rvV t a = v at *
      generalize rvE t a = n at *
      rcases (show 20000 < v ∨ (v ≤ 20000 ∧ t.size < v + n) by omega) with h1 | ⟨h1, h2⟩
      · have h1' : (20000 : Int) < v := by omega
        go_wp2
        go_ret3
        exact ⟨ret_rs HR.out.2.1 HR.out.2.2, rfl⟩
      · have h1' : ¬ (20000 : Int) < v := by omega
        have h2' : (t.size : Int) - n < v := by omega
        go_wp2
        all_goals first | (exfalso; omega) | skip
        go_ret3
        exact ⟨ret_rs HR.out.2.1 HR.out.2.2, rfl⟩
  · obtain ⟨r1, r2⟩ := rs_yes h
    have h' := h
    simp only [rsOk, Bool.and_eq_true, decide_eq_true_eq] at h'
    obtain ⟨k1, k2, k3⟩ := h'
    have HR := Lib.hid r1
    have HE := Lib.hid r2
    have HK := Lib.hid k1
    clear h r1 r2 k1
    go_enter Tryz.func92, Tryz.ntmps92
    go_wp2_with fail
    refine (impl_ReadVar t a _ hs).mono ?_
    rw [HK.out]
    rintro e w' ⟨rfl, rfl⟩
    generalize rvV t a = v at *
    generalize rvE t a = n at *
    have q1 : ¬ (20000 : Int) < v := by omega
    have q2 : ¬ (t.size : Int) - n < v := by omega
    go_wp2
    all_goals first | (exfalso; omega) | skip
    go_ret3
    exact ⟨ret_rs (by rw [HR.out]; first | done | (congr 1; omega)) (by rw [HE.out]; first | rfl | omega), rfl⟩
/-- what 'short()' leaves -/
noncomputable def shAt (t : ByteArray) (a : Int) : Int := if rsOk t a = true then rsE t a else a
theorem shAt_bd {t : ByteArray} {a : Int} (ha : 0 ≤ a ∧ a ≤ t.size) : 0 ≤ shAt t a ∧ shAt t a ≤ t.size := by
  unfold shAt
  split
  · exact rsE_bd t a
  · exact ha
set_option maxHeartbeats 800000 in
theorem impl_fields_short (b : Nat) (t : ByteArray) (at_ : Int) (bad : Bool) (w : World) (h : Fld w b t at_ bad) (hs : t.size ≤ 1099511627776) :
    Calls Tryz.prog 76 #[.pointer (some ⟨b, 0, none⟩)] w fun e w' => e = .returned (.string (rsT t at_)) ∧ Mut b w w' ∧ Fld w' b t (shAt t at_) (bad || !rsOk t at_) := by
  have HF := Lib.hid h
  obtain ⟨h0, h1, h2, hf⟩ := h
  cases hk : rsOk t at_
  · obtain ⟨r1, r2⟩ := rs_no hk
    have hc := fun w => impl_ReadShort t at_ w hs
    simp only [hk, r1] at hc
    have HC := Lib.hid hc
    have HR := Lib.hid r1
    have HA := Lib.hid (show shAt t at_ = at_ by rw [shAt, if_neg (by rw [hk]; decide)])
    have HB := Lib.hid (show (bad || !false) = true by simp)
    rw [HB.out, HA.out, HR.out]
    clear hk r1 r2 hc
    go_enter Tryz.func76, Tryz.ntmps76
    generalize rsE t at_ = n at *
    go_wp2
    go_quiet ((go_at_call 92; exact quiet_left (HC.out _)))
    go_wp2
    go_ret
    exact ⟨rfl, ((Mut.refl b w).drewN _).setCell _ _, (HF.out.drewN _).bad true⟩
  · have hc := fun w => impl_ReadShort t at_ w hs
    simp only [hk] at hc
    have HC := Lib.hid hc
    have HA := Lib.hid (show shAt t at_ = rsE t at_ by rw [shAt, if_pos hk])
    have HB := Lib.hid (show (bad || !true) = bad by simp)
    rw [HB.out, HA.out]
    clear hk hc
    go_enter Tryz.func76, Tryz.ntmps76
    generalize rsE t at_ = n at *
    go_wp2
    go_quiet ((go_at_call 92; exact quiet_left (HC.out _)))
    go_wp2
    go_ret
    exact ⟨rfl, ((Mut.refl b w).drewN _).setCell _ _, (HF.out.drewN _).at _⟩
end Go.Proofs.YtkphipgfcbckcaaGreatDoor
namespace Go.Proofs.YtkphipgfcbckcaaGreatDoor
open Go.RowKit

/-- the reader's place and fault behind k pieces of wd bytes -/
def hsS (t : ByteArray) (a : Int) (bad : Bool) (wd : Int) : Nat → Int × Bool
  | 0 => (a, bad)
  | k + 1 => (bytesAt t (hsS t a bad wd k).1 (hsS t a bad wd k).2 wd, bytesBad t (hsS t a bad wd k).1 (hsS t a bad wd k).2 wd)
def hsL (t : ByteArray) (a : Int) (bad : Bool) (wd : Int) (n : Nat) : List ByteArray := (List.range n).map fun j : Nat => bytesOf t (hsS t a bad wd j).1 (hsS t a bad wd j).2 wd
theorem hsL_succ (t : ByteArray) (a : Int) (bad : Bool) (wd : Int) (n : Nat) : hsL t a bad wd (n + 1) = hsL t a bad wd n ++ [bytesOf t (hsS t a bad wd n).1 (hsS t a bad wd n).2 wd] := by simp [hsL, List.range_succ]
theorem hsL_len (t : ByteArray) (a : Int) (bad : Bool) (wd : Int) (n : Nat) : (hsL t a bad wd n).length = n := by simp [hsL]
theorem hsS_bd {t : ByteArray} {a wd : Int} {bad : Bool} (ha : 0 ≤ a ∧ a ≤ t.size) (hw : 0 ≤ wd) : ∀ k, 0 ≤ (hsS t a bad wd k).1 ∧ (hsS t a bad wd k).1 ≤ t.size
  | 0 => ha
  | k + 1 => bytesAt_bd (hsS_bd ha hw k) hw
theorem hsS_yes {t : ByteArray} {a wd : Int} {n : Nat} (h : a + n * wd ≤ t.size) (hw : 0 ≤ wd) : ∀ k : Nat, k ≤ n → hsS t a false wd k = (a + k * wd, false)
  | 0, _ => by simp [hsS]
  | k + 1, hk => by
    have h1 : (k + 1 : Int) * wd ≤ n * wd := Int.mul_le_mul_of_nonneg_right (by omega) hw
    have h2 : (k + 1 : Int) * wd = k * wd + wd := by rw [Int.add_mul, Int.one_mul]
    obtain ⟨b1, b2, -⟩ := bytes_yes (t := t) (a := a + k * wd) (n := wd) (by omega)
    rw [hsS, hsS_yes h hw k (by omega)]
    dsimp only
    rw [b1, b2, Prod.mk.injEq]
    refine ⟨?_, rfl⟩
    rw [show ((k + 1 : Nat) : Int) * wd = k * wd + wd from h2]
    omega
theorem bytes_ok {t : ByteArray} {a n : Int} {bad : Bool} (h : bytesBad t a bad n = false) : bad = false ∧ n ≤ t.size - a ∧ bytesAt t a bad n = a + n := by
  cases bad with
  | true => rw [(bytes_bad t a n).1] at h; cases h
  | false =>
    rcases (show n > t.size - a ∨ n ≤ t.size - a by omega) with h1 | h1
    · rw [(bytes_no h1).1] at h; cases h
    · exact ⟨rfl, h1, (bytes_yes h1).2.1⟩
theorem hsS_false {t : ByteArray} {a wd : Int} {bad : Bool} (ha : a ≤ t.size) : ∀ k : Nat, (hsS t a bad wd k).2 = false → bad = false ∧ (hsS t a bad wd k).1 = a + k * wd ∧ a + k * wd ≤ t.size
  | 0, h => ⟨h, by simp [hsS], by simpa using ha⟩
  | k + 1, h => by
    rw [hsS] at h ⊢
    dsimp only at h ⊢
    obtain ⟨h1, h2, h3⟩ := bytes_ok h
    obtain ⟨k1, k2, k3⟩ := hsS_false ha k h1
    have h4 : ((k + 1 : Nat) : Int) * wd = k * wd + wd := by rw [show ((k + 1 : Nat) : Int) = (k : Int) + 1 by omega, Int.add_mul, Int.one_mul]
    rw [h3, k2, h4]
    rw [k2] at h2
    exact ⟨k1, by omega, by omega⟩
/-- n pieces of 16 bytes -/
def cutL (t : ByteArray) (a : Nat) (n : Nat) : List ByteArray := (List.range n).map fun j : Nat => t.extract (a + j * 16) (a + j * 16 + 16)
theorem cutL_succ (t : ByteArray) (a n : Nat) : cutL t a (n + 1) = cutL t a n ++ [t.extract (a + n * 16) (a + n * 16 + 16)] := by simp [cutL, List.range_succ]
theorem cutL_len (t : ByteArray) (a n : Nat) : (cutL t a n).length = n := by simp [cutL]
theorem cutL_16 {t : ByteArray} {a n : Nat} (h : a + n * 16 ≤ t.size) : ∀ s ∈ cutL t a n, s.size = 16 := by
  intro s hs
  rw [cutL, List.mem_map] at hs
  obtain ⟨j, hj, rfl⟩ := hs
  rw [List.mem_range] at hj
  rw [ByteArray.size_extract]
  omega
theorem cutL_le (t : ByteArray) (a n : Nat) : ∀ s ∈ cutL t a n, s.size ≤ 16 := by
  intro s hs
  rw [cutL, List.mem_map] at hs
  obtain ⟨j, hj, rfl⟩ := hs
  rw [ByteArray.size_extract]
  omega
theorem hsL_cut {t : ByteArray} {a : Nat} {n : Nat} (h : a + n * 16 ≤ t.size) : hsL t a false 16 n = cutL t a n := by
  rw [hsL, cutL]
  refine List.map_congr_left fun j hj => ?_
  rw [List.mem_range] at hj
  rw [hsS_yes (t := t) (a := a) (wd := 16) (n := n) (by omega) (by decide) j (by omega)]
  dsimp only
  rw [(bytes_yes (by omega)).2.2]
  congr 1 <;> omega
theorem hsL_le (t : ByteArray) (a : Int) (bad : Bool) (n : Nat) (ha : 0 ≤ a ∧ a ≤ t.size) : ∀ s ∈ hsL t a bad 16 n, s.size ≤ 16 := by
  intro s hs
  rw [hsL, List.mem_map] at hs
  obtain ⟨j, hj, rfl⟩ := hs
  have := hsS_bd (bad := bad) ha (wd := 16) (by decide) j
  rw [bytesOf]
  split
  · exact Nat.zero_le _
  · rw [ByteArray.size_extract]; omega
/-- a signature read at a place, and the place and fault behind it -/
def sgS1 (t : ByteArray) (a : Int) (bad : Bool) : Int × Bool := (bytesAt t a bad 1, bytesBad t a bad 1)
def sgS2 (t : ByteArray) (a : Int) (bad : Bool) : Int × Bool := hsS t (sgS1 t a bad).1 (sgS1 t a bad).2 16 8
def sgS3 (t : ByteArray) (a : Int) (bad : Bool) : Int × Bool := hsS t (sgS2 t a bad).1 (sgS2 t a bad).2 16 8
def sgS4 (t : ByteArray) (a : Int) (bad : Bool) : Int × Bool := hsS t (sgS3 t a bad).1 (sgS3 t a bad).2 16 4
def sgRd (t : ByteArray) (a : Int) (bad : Bool) : SigV := ⟨oneOf t a bad, hsL t (sgS1 t a bad).1 (sgS1 t a bad).2 16 8, hsL t (sgS2 t a bad).1 (sgS2 t a bad).2 16 8, hsL t (sgS3 t a bad).1 (sgS3 t a bad).2 16 4⟩
theorem sgS1_bd {t : ByteArray} {a : Int} {bad : Bool} (ha : 0 ≤ a ∧ a ≤ t.size) : 0 ≤ (sgS1 t a bad).1 ∧ (sgS1 t a bad).1 ≤ t.size := bytesAt_bd ha (by decide)
theorem sgS2_bd {t : ByteArray} {a : Int} {bad : Bool} (ha : 0 ≤ a ∧ a ≤ t.size) : 0 ≤ (sgS2 t a bad).1 ∧ (sgS2 t a bad).1 ≤ t.size := hsS_bd (sgS1_bd ha) (by decide) 8
theorem sgS3_bd {t : ByteArray} {a : Int} {bad : Bool} (ha : 0 ≤ a ∧ a ≤ t.size) : 0 ≤ (sgS3 t a bad).1 ∧ (sgS3 t a bad).1 ≤ t.size := hsS_bd (sgS2_bd ha) (by decide) 8
theorem sgRd_fit {t : ByteArray} {a : Int} {bad : Bool} (ha : 0 ≤ a ∧ a ≤ t.size) : SigFit (sgRd t a bad) := by
  refine ⟨fun s hs => ?_, fun s hs => ?_, fun s hs => ?_⟩
  · exact Nat.le_trans (hsL_le t _ _ 8 (sgS1_bd ha) s hs) (by decide)
  · exact Nat.le_trans (hsL_le t _ _ 8 (sgS2_bd ha) s hs) (by decide)
  · exact Nat.le_trans (hsL_le t _ _ 4 (sgS3_bd ha) s hs) (by decide)
/-- the signature that stands at a place -/
def rsV (t : ByteArray) (a : Nat) : SigV := ⟨oneOf t a false, cutL t (a + 1) 8, cutL t (a + 129) 8, cutL t (a + 257) 4⟩
theorem sgRd_yes {t : ByteArray} {a : Nat} (h : a + 321 ≤ t.size) : sgRd t a false = rsV t a ∧ sgS4 t a false = (((a + 321 : Nat) : Int), false) := by
  obtain ⟨b1, b2, -⟩ := bytes_yes (t := t) (a := a) (n := 1) (by omega)
  have e1 : sgS1 t a false = (((a + 1 : Nat) : Int), false) := by rw [sgS1, b1, b2]; rfl
  have e2 : sgS2 t a false = (((a + 129 : Nat) : Int), false) := by
    rw [sgS2, e1]; dsimp only
    rw [hsS_yes (n := 8) (by omega) (by decide) 8 (by omega), Prod.mk.injEq]
    exact ⟨by omega, rfl⟩
  have e3 : sgS3 t a false = (((a + 257 : Nat) : Int), false) := by
    rw [sgS3, e2]; dsimp only
    rw [hsS_yes (n := 8) (by omega) (by decide) 8 (by omega), Prod.mk.injEq]
    exact ⟨by omega, rfl⟩
  have e4 : sgS4 t a false = (((a + 321 : Nat) : Int), false) := by
    rw [sgS4, e3]; dsimp only
    rw [hsS_yes (n := 4) (by omega) (by decide) 4 (by omega), Prod.mk.injEq]
    exact ⟨by omega, rfl⟩
  refine ⟨?_, e4⟩
  rw [sgRd, e1, e2, e3]
  dsimp only
  rw [hsL_cut (by omega), hsL_cut (by omega), hsL_cut (by omega)]
  rfl
theorem sgS4_false {t : ByteArray} {a : Nat} {bad : Bool} (ha : a ≤ t.size) (h : (sgS4 t a bad).2 = false) : bad = false ∧ a + 321 ≤ t.size := by
  have hA : (0 : Int) ≤ a ∧ (a : Int) ≤ t.size := by omega
  obtain ⟨h3, k4, l4⟩ := hsS_false (sgS3_bd hA).2 4 h
  obtain ⟨h2, k3, l3⟩ := hsS_false (sgS2_bd hA).2 8 h3
  obtain ⟨h1, k2, l2⟩ := hsS_false (sgS1_bd hA).2 8 h2
  obtain ⟨h0, k1, l1⟩ := bytes_ok h1
  have e3 : (sgS3 t a bad).1 = (sgS2 t a bad).1 + ((8 : Nat) : Int) * 16 := k3
  have e2 : (sgS2 t a bad).1 = (sgS1 t a bad).1 + ((8 : Nat) : Int) * 16 := k2
  have e1 : (sgS1 t a bad).1 = a + 1 := l1
  exact ⟨h0, by omega⟩
/-- is a text a signature's? -/
def rdSig (t : ByteArray) : Bool := decide (t.size = 321) && decide (oneOf t 0 false ≤ 15)
def rdSigV (t : ByteArray) : SigV := if rdSig t = true then rsV t 0 else ⟨0, [], [], []⟩
theorem one_bd (t : ByteArray) (a : Int) (b : Bool) : 0 ≤ oneOf t a b ∧ oneOf t a b ≤ 255 := by
  rw [oneOf]
  split
  · have := UInt8.toNat_lt (t[a.toNat]'(by omega)); omega
  · omega
theorem wide_cut {t : ByteArray} {a n : Nat} (h : a + n * 16 ≤ t.size) : wide (cutL t a n) 16 = true := by
  rw [wide, List.all_eq_true]
  intro s hs
  exact decide_eq_true (by rw [cutL_16 h s hs]; rfl)
theorem rsV_well {t : ByteArray} {a : Nat} (h : a + 321 ≤ t.size) : sigWell (rsV t a) = decide (oneOf t a false ≤ 15) := by
  have hb := one_bd t a false
  rw [sigWell, rsV]
  dsimp only
  rw [wide_cut (by omega), wide_cut (by omega), wide_cut (by omega), cutL_len, cutL_len, cutL_len]
  rw [Bool.eq_iff_iff]
  simp only [Bool.and_eq_true, decide_eq_true_eq, inB_true]
  constructor
  · rintro ⟨⟨-, h1⟩, -⟩; exact h1
  · intro h1; exact ⟨⟨hb.1, h1⟩, ⟨trivial, rfl⟩, ⟨trivial, rfl⟩, trivial, rfl⟩
theorem ba_one {t : ByteArray} {a : Nat} (h : a < t.size) : strOfNums [oneOf t a false] = t.extract a (a + 1) := by
  apply ba_ext
  have hl : a < t.data.toList.length := by rw [ba_len]; exact h
  rw [ba_nums, ba_extract, one_at t a h, Nat.add_sub_cancel_left, List.map_cons, List.map_nil, Int.toNat_natCast, List.getD_eq_getElem?_getD, List.getElem?_eq_getElem hl, List.drop_eq_getElem_cons hl]
  simp
theorem xt_app {t : ByteArray} {a b c : Nat} (h1 : a ≤ b) (h2 : b ≤ c) : t.extract a b ++ t.extract b c = t.extract a c := by
  apply ba_ext
  rw [ba_append, ba_extract, ba_extract, ba_extract]
  have : c - a = (b - a) + (c - b) := by omega
  rw [this, List.take_add, List.drop_drop]
  congr 3
  omega
theorem xt_all (t : ByteArray) : t.extract 0 t.size = t := by
  apply ba_ext
  rw [ba_extract, Nat.sub_zero, List.drop_zero, List.take_of_length_le (by rw [ba_len]; exact Nat.le_refl _)]
theorem join_cut (t : ByteArray) (a n : Nat) : ∀ k, k ≤ n → joinOn ⟨#[]⟩ (cutL t a n) k = t.extract a (a + k * 16)
  | 0, _ => by
    rw [joinOn_zero]
    apply ba_ext
    rw [ba_extract, ba_empty]
    simp
  | k + 1, h => by
    have hlt : k < (cutL t a n).length := by rw [cutL_len]; omega
    have e : (cutL t a n)[k] = t.extract (a + k * 16) (a + k * 16 + 16) := by simp [cutL]
    rw [joinOn_succ _ _ k hlt, join_cut t a n k (by omega), e, xt_app (by omega) (by omega)]
    congr 1
    omega
theorem joinT_cut (t : ByteArray) (a n : Nat) : joinT (cutL t a n) = t.extract a (a + n * 16) := by
  have := join_cut t a n n (Nat.le_refl _)
  rw [joinT, cutL_len]
  exact this
/-- the text of what is read is what was read -/
theorem rsV_text {t : ByteArray} {a : Nat} (h : a + 321 ≤ t.size) : sigT (rsV t a) = t.extract a (a + 321) := by
  rw [sigT, rsV]
  dsimp only
  rw [ba_one (by omega), joinT_cut, joinT_cut, joinT_cut, xt_app (by omega) (by omega), xt_app (by omega) (by omega), xt_app (by omega) (by omega)]
theorem rdSig_text {t : ByteArray} (h : rdSig t = true) : sigWell (rdSigV t) = true ∧ sigTx (rdSigV t) = t := by
  have h' := h
  rw [rdSig, Bool.and_eq_true, decide_eq_true_eq, decide_eq_true_eq] at h'
  obtain ⟨hs, h1⟩ := h'
  have hw : sigWell (rsV t 0) = true := by rw [rsV_well (by omega)]; exact decide_eq_true h1
  rw [rdSigV, if_pos h]
  refine ⟨hw, ?_⟩
  rw [sigTx, if_pos hw, rsV_text (by omega)]
  have := xt_all t
  rw [hs] at this
  exact this
end Go.Proofs.YtkphipgfcbckcaaGreatDoor
namespace Go.Proofs.YtkphipgfcbckcaaGreatDoor
open Go.RowKit

theorem Fld.ext {w w' : World} {b : Nat} {t : ByteArray} {a : Int} {x : Bool} (h : Fld w b t a x) (hb : b < w.heap.size) (hx : Ext w w') : Fld w' b t a x :=
  ⟨(hx.cell _ _ hb).trans h.c0, (hx.cell _ _ hb).trans h.c1, (hx.cell _ _ hb).trans h.c2, fun o => (hx.frozen _ _ hb).trans (h.fz o)⟩
theorem Fld.grown {w w' : World} {b : Nat} {t : ByteArray} {a : Int} {x : Bool} (h : Fld w b t a x) (hb : b < w.heap.size) {row : Option Nat} (hg : w.grownBy w' row) (hr : row ≠ some b) : Fld w' b t a x := by
  have hne : ∀ o, some (⟨b, o, none⟩ : Addr).block ≠ row := fun o e => hr e.symm
  exact ⟨(hg.cell_far _ hb (hne _)).trans h.c0, (hg.cell_far _ hb (hne _)).trans h.c1, (hg.cell_far _ hb (hne _)).trans h.c2, fun o => (hg.frozen_far _ hb (hne _)).trans (h.fz o)⟩
set_option maxHeartbeats 1600000 in
theorem impl_fields_hashes (b : Nat) (t : ByteArray) (a : Int) (bad : Bool) (n : Nat) (wd : Int) (w : World) (h : Fld w b t a bad) (hb : b < w.heap.size) (ha : 0 ≤ a ∧ a ≤ t.size) (hw : 0 ≤ wd ∧ wd ≤ 1048576) (hn : n ≤ 1000) (hs : t.size ≤ 1099511627776) :
    Calls Tryz.prog 93 #[.pointer (some ⟨b, 0, none⟩), .int .i64 n, .int .i64 wd] w fun e w' => ∃ oa oc, e = .returned (.slice oa (hsL t a bad wd n).length oc) ∧ OwnStrs w' w.heap.size (.slice oa (hsL t a bad wd n).length oc) (hsL t a bad wd n) ∧ Fld w' b t (hsS t a bad wd n).1 (hsS t a bad wd n).2 ∧ Mut b w w' := by
  obtain ⟨i0, hi, hz0, hz1, hz2⟩ := info_parts infoString
  have hn1 : (n : Int) ≤ 1000 := by omega
  obtain ⟨hw0, hw1⟩ := hw
  go_enter Tryz.func93, Tryz.ntmps93
  go_wp2
  go_loopw [7, 9] (fun v i wr => ∃ k : Nat, k ≤ n ∧ i = .int .i64 k ∧ wr.ownsRow w.heap.size 9 1 v k ((hsL t a bad wd k).map Value.string) ∧ Fld wr b t (hsS t a bad wd k).1 (hsS t a bad wd k).2 ∧ Mut b w wr) (fun _ i _ => n - (intOf i).toNat)
  case atStart => exact ⟨0, Nat.zero_le _, rfl, World.ownsRow_nil _ _ _ _, h, Mut.refl _ _⟩
  case round =>
    obtain ⟨k, hk, rfl, hown, F, M⟩ := hrel
    obtain ⟨oa, oc, rfl⟩ := own_any hown
    have hbd := hsS_bd (bad := bad) ha hw0 k
    have hsz := M.size
    by_cases hlt : k < n
    · have hlt' : (k : Int) < n := by omega
      have HU := Lib.hid (hsL_succ t a bad wd k)
      have HX := Lib.hid (show hsS t a bad wd (k + 1) = (bytesAt t (hsS t a bad wd k).1 (hsS t a bad wd k).2 wd, bytesBad t (hsS t a bad wd k).1 (hsS t a bad wd k).2 wd) from rfl)
      generalize hsS t a bad wd k = st at *
      obtain ⟨at1, bad1⟩ := st
      dsimp only at HX F hbd HU
      go_wp2_with fail
      refine (impl_fields_bytes b t at1 bad1 wd _ F hbd ⟨hw0, hw1⟩ hs).mono ?_
      generalize hs1 : bytesOf t at1 bad1 wd = s1 at *
      have HS := Lib.hid hs1
      clear hs1
      rintro e w1 ⟨rfl, M1, F1⟩
      have own1 := own_mut hown (b := b) hb M1
      have z1 := M1.size
      have HB := Lib.hid (show b < w1.heap.size by omega)
      have M2 := M.trans M1
      clear hown F M
      go_wp2_with (at_builtin; refine wpList_append_own _ rfl (.tmp 11) (.tmp 15) 24 rfl w.heap.size 9 i0 (.string ⟨#[]⟩) 1 16 Tryz.underlying24 hi hz0 hz1 hz2 rfl (by decide) _ _ _ rfl (own_alloc own1 _) ⟨w1.heap.size, 0, none⟩ 1 1 [.string s1] rfl rfl ?c1 ?c2 ?c3 ?c4 ?c5 ?_)
      case c1 => exact World.news_of_block (heap_alloc_new w1 (Obj.cells #[Value.string s1] 9))
      case c2 => intro u hu; simp at hu; subst hu; rfl
      case c3 => unfold maxLen; omega
      case c4 => omega
      case c5 => simp; omega
      intro v' w3 own3 hgrow _
      have e3 : Ext w1 (w1.alloc (Obj.cells #[Value.string s1] 9)) := (Ext.refl _).alloc _
      have bl := own_lt own1
      have F3 := (F1.ext HB.out e3).grown (Nat.lt_of_lt_of_le HB.out e3.size) hgrow (fun e => by have := (bl b e).1; omega)
      have M3 := (M2.trans (Mut.of_ext e3)).grew hgrow (fun k hk => (bl k hk).1)
      obtain ⟨oa3, oc3, rfl⟩ := own_any own3
      have O3 := Lib.hid own3
      clear own3 hgrow bl own1 F1 M2
      go_wp2
      go_roundw
      case rel => exact ⟨k + 1, by omega, by go_num, by rw [HU.out, List.map_append]; exact O3.out, by rw [HX.out]; exact F3, M3⟩
      case measure => simp [intOf]; omega
    · obtain rfl : k = n := by omega
      go_wp2
      go_ret
      exact ⟨oa, oc, by rw [hsL_len]; rfl, by unfold OwnStrs; rw [hsL_len]; exact hown, F, M⟩
theorem fld_far {w : World} {b c : Nat} {t : ByteArray} {a : Int} {x : Bool} (h : Fld w b t a x) (hc : c ≠ b) (o : Nat) (u : Value) : Fld (w.setCell ⟨c, o, none⟩ u) b t a x := by
  have hn : ∀ i, (⟨c, o, none⟩ : Addr) ≠ ⟨b, i, none⟩ := fun i e => hc (by injection e)
  exact ⟨by rw [World.cell?_setCell_other _ _ _ _ (hn _)]; exact h.c0, by rw [World.cell?_setCell_other _ _ _ _ (hn _)]; exact h.c1, by rw [World.cell?_setCell_other _ _ _ _ (hn _)]; exact h.c2, fun i => by rw [World.frozen?_setCell]; exact h.fz i⟩
set_option maxHeartbeats 1600000 in
theorem impl_fields_sig (b : Nat) (t : ByteArray) (a : Int) (bad : Bool) (w : World) (h : Fld w b t a bad) (hb : b < w.heap.size) (ha : 0 ≤ a ∧ a ≤ t.size) (hs : t.size ≤ 1099511627776) :
    Calls Tryz.prog 77 #[.pointer (some ⟨b, 0, none⟩)] w fun e w' => ∃ a1 c1 a2 c2 a3 c3, e = .returned (.agg #[.int .i64 (sgRd t a bad).at_, .slice a1 (sgRd t a bad).op.length c1, .slice a2 (sgRd t a bad).sh.length c2, .slice a3 (sgRd t a bad).si.length c3]) ∧ SigOwn w' w.heap.size (.slice a1 (sgRd t a bad).op.length c1) (.slice a2 (sgRd t a bad).sh.length c2) (.slice a3 (sgRd t a bad).si.length c3) (sgRd t a bad) ∧ Fld w' b t (sgS4 t a bad).1 (sgS4 t a bad).2 ∧ Mut b w w' := by
  have e0 : Ext w (w.alloc (Obj.cells #[.int .i64 0, .slice none 0 0, .slice none 0 0, .slice none 0 0] 30)) := (Ext.refl w).alloc _
  have R := Bx.new w #[.int .i64 0, .slice none 0 0, .slice none 0 0, .slice none 0 0] 30
  have F0 := h.ext hb e0
  have hb0 := Nat.lt_of_lt_of_le hb e0.size
  have hwb : w.heap.size ≠ b := by omega
  have M0 : Mut b w (w.alloc (Obj.cells #[.int .i64 0, .slice none 0 0, .slice none 0 0, .slice none 0 0] 30)) := Mut.of_ext e0
  have z0 : w.heap.size < (w.alloc (Obj.cells #[.int .i64 0, .slice none 0 0, .slice none 0 0, .slice none 0 0] 30)).heap.size := by rw [World.size_alloc]; omega
  go_enter Tryz.func77, Tryz.ntmps77
  go_wp2_with fail
  generalize w.alloc (Obj.cells #[.int .i64 0, .slice none 0 0, .slice none 0 0, .slice none 0 0] 30) = W0 at *
  refine (impl_fields_one b t a bad _ F0 ha hs).mono ?_
  rintro e w1 ⟨rfl, M1, F1⟩
  have hb1 := Nat.lt_of_lt_of_le hb0 M1.size
  have R1 := R.mut M1 hwb
  have q1 := sgS1_bd (bad := bad) ha
  have q2 := sgS2_bd (bad := bad) ha
  have q3 := sgS3_bd (bad := bad) ha
  have MA := M0.trans M1
  have HV := Lib.hid (show sgRd t a bad = ⟨oneOf t a bad, hsL t (sgS1 t a bad).1 (sgS1 t a bad).2 16 8, hsL t (sgS2 t a bad).1 (sgS2 t a bad).2 16 8, hsL t (sgS3 t a bad).1 (sgS3 t a bad).2 16 4⟩ from rfl)
  have HS2 := Lib.hid (show hsS t (sgS1 t a bad).1 (sgS1 t a bad).2 16 8 = sgS2 t a bad from rfl)
  have HS3 := Lib.hid (show hsS t (sgS2 t a bad).1 (sgS2 t a bad).2 16 8 = sgS3 t a bad from rfl)
  have HS4 := Lib.hid (show hsS t (sgS3 t a bad).1 (sgS3 t a bad).2 16 4 = sgS4 t a bad from rfl)
  have F1' : Fld w1 b t (sgS1 t a bad).1 (sgS1 t a bad).2 := F1
  clear F1 F0 R M0
  generalize sgS1 t a bad = s1 at *
  generalize sgS2 t a bad = s2 at *
  generalize sgS3 t a bad = s3 at *
  generalize hs4 : sgS4 t a bad = s4 at *
  have HS5 := Lib.hid hs4
  clear hs4
  go_wp2_with fail
  refine (impl_fields_hashes b t s1.1 s1.2 8 16 _ F1' hb1 q1 (by decide) (by decide) hs).mono ?_
  rw [HS2.out]
  generalize hsL t s1.1 s1.2 16 8 = l1 at *
  rintro e w2 ⟨a1, c1, rfl, o1, F2, M2⟩
  have hb2 := Nat.lt_of_lt_of_le hb1 M2.size
  have R2 := R1.mut M2 hwb
  have MB := MA.trans M2
  have n1 := M1.size
  have n2 := M2.size
  go_wp2_with fail
  refine (impl_fields_hashes b t s2.1 s2.2 8 16 _ F2 hb2 q2 (by decide) (by decide) hs).mono ?_
  rw [HS3.out]
  generalize hsL t s2.1 s2.2 16 8 = l2 at *
  rintro e w3 ⟨a2, c2, rfl, o2, F3, M3⟩
  have hb3 := Nat.lt_of_lt_of_le hb2 M3.size
  have R3 := R2.mut M3 hwb
  have MC := MB.trans M3
  have o1b := own_mut o1 (b := b) hb1 M3
  have n3 := M3.size
  go_wp2_with fail
  refine (impl_fields_hashes b t s3.1 s3.2 4 16 _ F3 hb3 q3 (by decide) (by decide) hs).mono ?_
  rw [HS4.out]
  generalize hsL t s3.1 s3.2 16 4 = l3 at *
  rintro e w4 ⟨a3, c3, rfl, o3, F4, M4⟩
  have R4 := R3.mut M4 hwb
  have MD := MC.trans M4
  have o1c := own_mut o1b (b := b) hb1 M4
  have o2c := own_mut o2 (b := b) hb2 M4
  have n4 := M4.size
  have f12 : Off (.slice a1 l1.length c1) (.slice a2 l2.length c2) := off_new o1 o2 (Nat.le_refl _)
  have f13 : Off (.slice a1 l1.length c1) (.slice a3 l3.length c3) := off_new o1b o3 (Nat.le_refl _)
  have f23 : Off (.slice a2 l2.length c2) (.slice a3 l3.length c3) := off_new o2 o3 (Nat.le_refl _)
  generalize hz : oneOf t a bad = z at *
  have HZ := Lib.hid hz
  clear hz o1 o1b o2 R1 R2 R3 M1 M2 M3 M4 MA MB MC F1' F2 F3
  have hx1 : w.heap.size < w1.heap.size := by omega
  have hx2 : w.heap.size < w2.heap.size := by omega
  have hx3 : w.heap.size < w3.heap.size := by omega
  have RF := ((((R4.set 0 (.int .i64 z) (by simp)).set 1 (.slice a1 l1.length c1) (by simp)).set 2 (.slice a2 l2.length c2) (by simp)).set 3 (.slice a3 l3.length c3) (by simp))
  have O1 := Lib.hid ((own_set (b := w.heap.size) (o := 3) (own_set (b := w.heap.size) (o := 2) (own_set (b := w.heap.size) (o := 1) (own_set (b := w.heap.size) (o := 0) o1c hx1 (.int .i64 z)) hx1 (.slice a1 l1.length c1)) hx1 (.slice a2 l2.length c2)) hx1 (.slice a3 l3.length c3)))
  have O2 := Lib.hid ((own_set (b := w.heap.size) (o := 3) (own_set (b := w.heap.size) (o := 2) (own_set (b := w.heap.size) (o := 1) (own_set (b := w.heap.size) (o := 0) o2c hx2 (.int .i64 z)) hx2 (.slice a1 l1.length c1)) hx2 (.slice a2 l2.length c2)) hx2 (.slice a3 l3.length c3)))
  have O3 := Lib.hid ((own_set (b := w.heap.size) (o := 3) (own_set (b := w.heap.size) (o := 2) (own_set (b := w.heap.size) (o := 1) (own_set (b := w.heap.size) (o := 0) o3 hx3 (.int .i64 z)) hx3 (.slice a1 l1.length c1)) hx3 (.slice a2 l2.length c2)) hx3 (.slice a3 l3.length c3)))
  have MF := (mut_new (mut_new (mut_new (mut_new MD 0 (.int .i64 z)) 1 (.slice a1 l1.length c1)) 2 (.slice a2 l2.length c2)) 3 (.slice a3 l3.length c3))
  have FF := (fld_far (fld_far (fld_far (fld_far F4 hwb 0 (.int .i64 z)) hwb 1 (.slice a1 l1.length c1)) hwb 2 (.slice a2 l2.length c2)) hwb 3 (.slice a3 l3.length c3))
  have k0 := R4.2.1 0 _ rfl
  have k1 := R4.2.1 1 _ rfl
  have k2 := R4.2.1 2 _ rfl
  have k3 := R4.2.1 3 _ rfl
  have f0 := R4.2.2 0
  have f1 := R4.2.2 1
  have f2 := R4.2.2 2
  have f3 := R4.2.2 3
  clear R4 o1c o2c o3 MD F4
  go_wp2
  generalize (((w4.setCell ⟨w.heap.size, 0, none⟩ (.int .i64 z)).setCell ⟨w.heap.size, 1, none⟩ (.slice a1 l1.length c1)).setCell ⟨w.heap.size, 2, none⟩ (.slice a2 l2.length c2)).setCell ⟨w.heap.size, 3, none⟩ (.slice a3 l3.length c3) = WF at *
  clear k0 k1 k2 k3
  have k0 := RF.2.1 0 _ rfl
  have k1 := RF.2.1 1 _ rfl
  have k2 := RF.2.1 2 _ rfl
  have k3 := RF.2.1 3 _ rfl
  refine bodyPost_ret (v := .agg #[.int .i64 z, .slice a1 l1.length c1, .slice a2 l2.length c2, .slice a3 l3.length c3]) (by simp [results, Tryz.results77, go_sem, k0, k1, k2, k3]) rfl ?_
  rw [HV.out]
  exact ⟨a1, c1, a2, c2, a3, c3, rfl, ⟨own_mono O1.out (Nat.le_of_lt hx1), own_mono O2.out (Nat.le_of_lt hx2), own_mono O3.out (Nat.le_of_lt hx3), f12, f13, f23⟩, by rw [HS5.out]; exact FF, MF⟩
def doneB (t : ByteArray) (a : Int) (bad : Bool) : Bool := !bad && decide (a = t.size)
set_option maxHeartbeats 800000 in
theorem impl_fields_done (b : Nat) (t : ByteArray) (a : Int) (bad : Bool) (w : World) (h : Fld w b t a bad) :
    Calls Tryz.prog 40 #[.pointer (some ⟨b, 0, none⟩)] w fun e w' => e = .returned (.bool (doneB t a bad)) ∧ Ext w w' := by
  obtain ⟨h0, h1, h2, -⟩ := h
  cases bad
  · go_enter Tryz.func40, Tryz.ntmps40
    go_wp2
    by_cases hq : a = t.size
    · have hb : (a == (t.size : Int)) = true := by simp [hq]
      have HQ := Lib.hid hq
      clear hq
      go_quiet (fail)
      go_wp2
      go_ret
      exact ⟨ret_bool (by rw [doneB, decide_eq_true HQ.out]; simp), (by repeat (first | (with_reducible first | exact Ext.refl _ | assumption | apply Ext.alloc | apply Ext.drew | apply Ext.drewN | refine Ext.setCell ?_ ?_ _ | refine Ext.trans ?_ (by assumption)) | (show _ ≤ _; first | omega | (dsimp only; omega) | (simp; done) | (simp; omega))))⟩
    · have hb : (a == (t.size : Int)) = false := by simp [hq]
      have HQ := Lib.hid hq
      clear hq
      go_quiet (fail)
      go_wp2
      go_ret
      exact ⟨ret_bool (by rw [doneB, decide_eq_false HQ.out]; simp), (by repeat (first | (with_reducible first | exact Ext.refl _ | assumption | apply Ext.alloc | apply Ext.drew | apply Ext.drewN | refine Ext.setCell ?_ ?_ _ | refine Ext.trans ?_ (by assumption)) | (show _ ≤ _; first | omega | (dsimp only; omega) | (simp; done) | (simp; omega))))⟩
  · go_enter Tryz.func40, Tryz.ntmps40
    go_wp2
    go_quiet (fail)
    go_wp2
    go_ret
    exact ⟨ret_bool (by simp [doneB]), (by repeat (first | (with_reducible first | exact Ext.refl _ | assumption | apply Ext.alloc | apply Ext.drew | apply Ext.drewN | refine Ext.setCell ?_ ?_ _ | refine Ext.trans ?_ (by assumption)) | (show _ ≤ _; first | omega | (dsimp only; omega) | (simp; done) | (simp; omega))))⟩
set_option maxHeartbeats 1600000 in
theorem spec_l05Cut (t : ByteArray) (a n : Nat) (w : World) (h : a + n * 16 ≤ t.size) (hn : n ≤ 1000) (hs : t.size ≤ 1099511627776) :
    Calls Tryz.prog 80 #[.string t, .int .i64 a, .int .i64 n] w fun e w' => ∃ oa oc, e = .returned (.slice oa (cutL t a n).length oc) ∧ OwnStrs w' w.heap.size (.slice oa (cutL t a n).length oc) (cutL t a n) ∧ Ext w w' := by
  obtain ⟨i0, hi, hz0, hz1, hz2⟩ := info_parts infoString
  have hn1 : (n : Int) ≤ 1000 := by omega
  go_enter Tryz.func80, Tryz.ntmps80
  go_wp2
  go_loopw [7, 8] (fun v i wr => ∃ k : Nat, k ≤ n ∧ i = .int .i64 k ∧ wr.ownsRow w.heap.size 9 1 v k ((cutL t a k).map Value.string) ∧ Ext w wr) (fun _ i _ => n - (intOf i).toNat)
  case atStart => exact ⟨0, Nat.zero_le _, rfl, World.ownsRow_lit w #[] 0 (Nat.le_refl _) (Nat.zero_le _) rfl, (by repeat (first | (with_reducible first | exact Ext.refl _ | assumption | apply Ext.alloc | apply Ext.drew | apply Ext.drewN | refine Ext.setCell ?_ ?_ _ | refine Ext.trans ?_ (by assumption)) | (show _ ≤ _; first | omega | (dsimp only; omega) | (simp; done) | (simp; omega))))⟩
  case round =>
    obtain ⟨k, hk, rfl, hown, hx⟩ := hrel
    obtain ⟨oa, oc, rfl⟩ := own_any hown
    have hsz := hx.size
    by_cases hlt : k < n
    · have hlt' : (k : Int) < n := by omega
      have HU := Lib.hid (cutL_succ t a k)
      have w1 : IntKind.i64.wrap ((k : Int) * 16) = k * 16 := IntWalk.i64_in _ (by omega)
      have w2 : IntKind.i64.wrap (((k : Int) + 1) * 16) = (k + 1) * 16 := IntWalk.i64_in _ (by omega)
      have b1 : (0 : Int) ≤ a + k * 16 := by omega
      have b2 : (a : Int) + k * 16 ≤ a + (k + 1) * 16 := by omega
      have b3 : (a : Int) + (k + 1) * 16 ≤ t.size := by omega
      have n1 : ((a : Int) + k * 16).toNat = a + k * 16 := by omega
      have n2 : ((a : Int) + (k + 1) * 16).toNat = a + k * 16 + 16 := by omega
      go_wp2_with (at_builtin; refine wpList_append_own _ rfl (.tmp 15) (.tmp 27) 24 rfl w.heap.size 9 i0 (.string ⟨#[]⟩) 1 16 Tryz.underlying24 hi hz0 hz1 hz2 rfl (by decide) _ _ _ rfl (own_alloc hown _) ⟨wr.heap.size, 0, none⟩ 1 1 [.string (t.extract (a + k * 16) (a + k * 16 + 16))] rfl rfl ?c1 ?c2 ?c3 ?c4 ?c5 ?_)
      case c1 => exact World.news_of_block (heap_alloc_new wr (Obj.cells #[Value.string (t.extract (a + k * 16) (a + k * 16 + 16))] 9))
      case c2 => intro u hu; simp at hu; subst hu; rfl
      case c3 => unfold maxLen; omega
      case c4 => omega
      case c5 => simp; omega
      intro v' w3 own3 hgrow _
      have hx3 : Ext w w3 := own_ext_of (hx.alloc _) (own_alloc hown _) hgrow (Nat.le_refl _)
      obtain ⟨oa3, oc3, rfl⟩ := own_any own3
      have O3 := Lib.hid own3
      clear own3 hgrow hown
      go_wp2
      go_roundw
      case rel => exact ⟨k + 1, by omega, by go_num, by rw [HU.out, List.map_append]; exact O3.out, hx3⟩
      case measure => simp [intOf]; omega
    · obtain rfl : k = n := by omega
      go_wp2
      go_ret
      exact ⟨oa, oc, by rw [cutL_len]; rfl, by unfold OwnStrs; rw [cutL_len]; exact hown, hx⟩
end Go.Proofs.YtkphipgfcbckcaaGreatDoor
namespace Go.Proofs.YtkphipgfcbckcaaGreatDoor
open Go.RowKit

theorem rdSigV_no {t : ByteArray} (h : rdSig t = false) : rdSigV t = ⟨0, [], [], []⟩ := by rw [rdSigV, if_neg (by rw [h]; decide)]
theorem rdSigV_yes {t : ByteArray} (h : rdSig t = true) : rdSigV t = rsV t 0 := by rw [rdSigV, if_pos h]
set_option maxRecDepth 100000 in
set_option maxHeartbeats 3200000 in
theorem spec_ReadSig (t : ByteArray) (w : World) (hs : t.size ≤ 1099511627776) :
    Calls Tryz.prog 43 #[.string t] w fun e w' => ∃ a1 c1 a2 c2 a3 c3, e = .returned (.tuple #[.agg #[.int .i64 (rdSigV t).at_, .slice a1 (rdSigV t).op.length c1, .slice a2 (rdSigV t).sh.length c2, .slice a3 (rdSigV t).si.length c3], .bool (rdSig t)]) ∧ SigOwn w' w.heap.size (.slice a1 (rdSigV t).op.length c1) (.slice a2 (rdSigV t).sh.length c2) (.slice a3 (rdSigV t).si.length c3) (rdSigV t) ∧ Ext w w' := by
  by_cases h1 : t.size = 321
  case neg =>
    have hn : rdSig t = false := by rw [rdSig, decide_eq_false h1]; rfl
    have HN := Lib.hid hn
    have HV := Lib.hid (rdSigV_no hn)
    have hb : ((t.size : Int) != 321) = true := by simp; omega
    clear hn h1
    have X : Ext w (w.alloc (Obj.cells #[.int .i64 0, .slice none 0 0, .slice none 0 0, .slice none 0 0] 30)) := (Ext.refl w).alloc _
    go_enter Tryz.func43, Tryz.ntmps43
    go_wp2
    refine bodyPost_ret (v := .tuple #[.agg #[.int .i64 0, .slice none 0 0, .slice none 0 0, .slice none 0 0], .bool false]) (by simp [results, Tryz.results43, go_sem]) rfl ?_
    rw [HV.out, HN.out]
    exact ⟨none, 0, none, 0, none, 0, rfl, sigOwn_nil _ _, X⟩
  have hb : ((t.size : Int) != 321) = false := by simp; omega
  have hlt : 0 < t.size := by omega
  have hi0 : (0 : Int) < t.size := by omega
  have hw := wrap64_byte (t[0])
  have h256 := (t[0]).toNat_lt
  have ho : oneOf t 0 false = ((t[0]).toNat : Int) := by have h : (false = false ∧ (0 : Int) ≤ (0 : Int) ∧ (0 : Int).toNat < t.size) := ⟨rfl, by omega, hlt⟩; rw [oneOf, dif_pos h]; rfl
  have X : Ext w (w.alloc (Obj.cells #[.int .i64 0, .slice none 0 0, .slice none 0 0, .slice none 0 0] 30)) := (Ext.refl w).alloc _
  have hr : rdSig t = decide ((t[0]).toNat ≤ 15) := by rw [rdSig, ho, decide_eq_true h1, Bool.eq_iff_iff]; simp; omega
  by_cases h16 : (t[0]).toNat ≤ 15
  case neg =>
    rw [decide_eq_false h16] at hr
    have HN := Lib.hid hr
    have HV := Lib.hid (rdSigV_no hr)
    have h17 : (16 : Int) ≤ (t[0]).toNat := by omega
    clear hr ho h1 h16
    go_enter Tryz.func43, Tryz.ntmps43
    go_wp2
    refine bodyPost_ret (v := .tuple #[.agg #[.int .i64 0, .slice none 0 0, .slice none 0 0, .slice none 0 0], .bool false]) (by simp [results, Tryz.results43, go_sem]) rfl ?_
    rw [HV.out, HN.out]
    exact ⟨none, 0, none, 0, none, 0, rfl, sigOwn_nil _ _, X⟩
  rw [decide_eq_true h16] at hr
  have HN := Lib.hid hr
  have HO := Lib.hid ho
  have h17 : ((t[0]).toNat : Int) < 16 := by omega
  have HV := Lib.hid (show rdSigV t = ⟨((t[0]).toNat : Int), cutL t 1 8, cutL t 129 8, cutL t 257 4⟩ by rw [rdSigV_yes hr, rsV, show ((0 : Nat) : Int) = 0 from rfl, ho])
  clear hr ho h16
  have H1 := Lib.hid h1
  go_enter Tryz.func43, Tryz.ntmps43
  go_wp2_with fail
  have X1 : Ext w ((w.alloc (Obj.cells #[.int .i64 0, .slice none 0 0, .slice none 0 0, .slice none 0 0] 30)).alloc (Obj.cells #[.int .i64 ((t[0]).toNat : Int), .slice none 0 0, .slice none 0 0, .slice none 0 0] 30)) := X.alloc _
  have R : Bx ((w.alloc (Obj.cells #[.int .i64 0, .slice none 0 0, .slice none 0 0, .slice none 0 0] 30)).alloc (Obj.cells #[.int .i64 ((t[0]).toNat : Int), .slice none 0 0, .slice none 0 0, .slice none 0 0] 30)) w.heap.size [.int .i64 0, .slice none 0 0, .slice none 0 0, .slice none 0 0] := (Bx.new w _ _).ext ((Ext.refl _).alloc _)
  have Q : Bx ((w.alloc (Obj.cells #[.int .i64 0, .slice none 0 0, .slice none 0 0, .slice none 0 0] 30)).alloc (Obj.cells #[.int .i64 ((t[0]).toNat : Int), .slice none 0 0, .slice none 0 0, .slice none 0 0] 30)) (w.heap.size + 1) [.int .i64 ((t[0]).toNat : Int), .slice none 0 0, .slice none 0 0, .slice none 0 0] := by have e := Bx.new (w.alloc (Obj.cells #[.int .i64 0, .slice none 0 0, .slice none 0 0, .slice none 0 0] 30)) #[.int .i64 ((t[0]).toNat : Int), .slice none 0 0, .slice none 0 0, .slice none 0 0] 30; rw [World.size_alloc] at e; exact e
  generalize (w.alloc (Obj.cells #[.int .i64 0, .slice none 0 0, .slice none 0 0, .slice none 0 0] 30)).alloc (Obj.cells #[.int .i64 ((t[0]).toNat : Int), .slice none 0 0, .slice none 0 0, .slice none 0 0] 30) = W1 at *
  clear X
  refine (spec_l05Cut t 1 8 _ (by have := H1.out; omega) (by decide) hs).mono ?_
  generalize cutL t 1 8 = l1 at *
  rintro e w2 ⟨a1, c1, rfl, o1, x1⟩
  have b1 := Q.1
  replace o1 := own_mono (b' := w.heap.size + 2) o1 (by omega)
  replace R := R.ext x1
  replace Q := Q.ext x1
  replace X1 := X1.trans x1
  have qc := Q.2.1 1 _ rfl
  have qf := Q.2.2 1
  have QF := Q.set 1 (.slice a1 l1.length c1) (by simp)
  have RF := R.far (c := w.heap.size + 1) (by omega) 1 (.slice a1 l1.length c1)
  have XF : Ext w (w2.setCell ⟨w.heap.size + 1, 1, none⟩ (.slice a1 l1.length c1)) := X1.setCell (by dsimp only; omega) _
  clear Q R X1
  have Q := QF
  have R := RF
  have X1 := XF
  clear QF RF XF
  replace o1 := own_set (b := w.heap.size + 1) (o := 1) o1 (by omega) (.slice a1 l1.length c1)
  go_wp2_with fail
  generalize w2.setCell ⟨w.heap.size + 1, 1, none⟩ (.slice a1 l1.length c1) = U1 at *
  clear qc qf
  refine (spec_l05Cut t 129 8 _ (by have := H1.out; omega) (by decide) hs).mono ?_
  generalize cutL t 129 8 = l2 at *
  rintro e w3 ⟨a2, c2, rfl, o2, x2⟩
  have b2 := Q.1
  have f12 : Off (.slice a1 l1.length c1) (.slice a2 l2.length c2) := off_new o1 o2 (Nat.le_refl _)
  replace o1 := own_ext o1 x2
  replace o2 := own_mono (b' := w.heap.size + 2) o2 (by omega)
  replace R := R.ext x2
  replace Q := Q.ext x2
  replace X1 := X1.trans x2
  have qc := Q.2.1 2 _ rfl
  have qf := Q.2.2 2
  have QF := Q.set 2 (.slice a2 l2.length c2) (by simp)
  have RF := R.far (c := w.heap.size + 1) (by omega) 2 (.slice a2 l2.length c2)
  have XF : Ext w (w3.setCell ⟨w.heap.size + 1, 2, none⟩ (.slice a2 l2.length c2)) := X1.setCell (by dsimp only; omega) _
  clear Q R X1
  have Q := QF
  have R := RF
  have X1 := XF
  clear QF RF XF
  replace o1 := own_set (b := w.heap.size + 1) (o := 2) o1 (by omega) (.slice a2 l2.length c2)
  replace o2 := own_set (b := w.heap.size + 1) (o := 2) o2 (by omega) (.slice a2 l2.length c2)
  go_wp2_with fail
  generalize w3.setCell ⟨w.heap.size + 1, 2, none⟩ (.slice a2 l2.length c2) = U2 at *
  clear qc qf
  refine (spec_l05Cut t 257 4 _ (by have := H1.out; omega) (by decide) hs).mono ?_
  generalize cutL t 257 4 = l3 at *
  rintro e w4 ⟨a3, c3, rfl, o3, x3⟩
  have b3 := Q.1
  have f13 : Off (.slice a1 l1.length c1) (.slice a3 l3.length c3) := off_new o1 o3 (Nat.le_refl _)
  have f23 : Off (.slice a2 l2.length c2) (.slice a3 l3.length c3) := off_new o2 o3 (Nat.le_refl _)
  replace o1 := own_ext o1 x3
  replace o2 := own_ext o2 x3
  replace o3 := own_mono (b' := w.heap.size + 2) o3 (by omega)
  replace R := R.ext x3
  replace Q := Q.ext x3
  replace X1 := X1.trans x3
  have qc := Q.2.1 3 _ rfl
  have qf := Q.2.2 3
  have QF := Q.set 3 (.slice a3 l3.length c3) (by simp)
  have RF := R.far (c := w.heap.size + 1) (by omega) 3 (.slice a3 l3.length c3)
  have XF : Ext w (w4.setCell ⟨w.heap.size + 1, 3, none⟩ (.slice a3 l3.length c3)) := X1.setCell (by dsimp only; omega) _
  replace o1 := own_set (b := w.heap.size + 1) (o := 3) o1 (by omega) (.slice a3 l3.length c3)
  replace o2 := own_set (b := w.heap.size + 1) (o := 3) o2 (by omega) (.slice a3 l3.length c3)
  replace o3 := own_set (b := w.heap.size + 1) (o := 3) o3 (by omega) (.slice a3 l3.length c3)
  have q0c := Q.2.1 0 _ rfl
  have q1c := Q.2.1 1 _ rfl
  have q2c := Q.2.1 2 _ rfl
  have z0 := R.2.1 0 _ rfl
  have z1 := R.2.1 1 _ rfl
  have z2 := R.2.1 2 _ rfl
  have z3 := R.2.1 3 _ rfl
  have zf0 := R.2.2 0
  have zf1 := R.2.2 1
  have zf2 := R.2.2 2
  have zf3 := R.2.2 3
  have RR := ((((RF.set 0 (.int .i64 ((t[0]).toNat : Int)) (by simp)).set 1 (.slice a1 l1.length c1) (by simp)).set 2 (.slice a2 l2.length c2) (by simp)).set 3 (.slice a3 l3.length c3) (by simp))
  have XX : Ext w (((((w4.setCell ⟨w.heap.size + 1, 3, none⟩ (.slice a3 l3.length c3)).setCell ⟨w.heap.size, 0, none⟩ (.int .i64 ((t[0]).toNat : Int))).setCell ⟨w.heap.size, 1, none⟩ (.slice a1 l1.length c1)).setCell ⟨w.heap.size, 2, none⟩ (.slice a2 l2.length c2)).setCell ⟨w.heap.size, 3, none⟩ (.slice a3 l3.length c3)) := ((((XF.setCell (Nat.le_refl _) _).setCell (Nat.le_refl _) _).setCell (Nat.le_refl _) _).setCell (Nat.le_refl _) _)
  have p1 := (own_set (b := w.heap.size) (o := 3) (own_set (b := w.heap.size) (o := 2) (own_set (b := w.heap.size) (o := 1) (own_set (b := w.heap.size) (o := 0) o1 (by omega) (.int .i64 ((t[0]).toNat : Int))) (by omega) (.slice a1 l1.length c1)) (by omega) (.slice a2 l2.length c2)) (by omega) (.slice a3 l3.length c3))
  have p2 := (own_set (b := w.heap.size) (o := 3) (own_set (b := w.heap.size) (o := 2) (own_set (b := w.heap.size) (o := 1) (own_set (b := w.heap.size) (o := 0) o2 (by omega) (.int .i64 ((t[0]).toNat : Int))) (by omega) (.slice a1 l1.length c1)) (by omega) (.slice a2 l2.length c2)) (by omega) (.slice a3 l3.length c3))
  have p3 := (own_set (b := w.heap.size) (o := 3) (own_set (b := w.heap.size) (o := 2) (own_set (b := w.heap.size) (o := 1) (own_set (b := w.heap.size) (o := 0) o3 (by omega) (.int .i64 ((t[0]).toNat : Int))) (by omega) (.slice a1 l1.length c1)) (by omega) (.slice a2 l2.length c2)) (by omega) (.slice a3 l3.length c3))
  clear o1 o2 o3
  go_wp2
  generalize ((((w4.setCell ⟨w.heap.size + 1, 3, none⟩ (.slice a3 l3.length c3)).setCell ⟨w.heap.size, 0, none⟩ (.int .i64 ((t[0]).toNat : Int))).setCell ⟨w.heap.size, 1, none⟩ (.slice a1 l1.length c1)).setCell ⟨w.heap.size, 2, none⟩ (.slice a2 l2.length c2)).setCell ⟨w.heap.size, 3, none⟩ (.slice a3 l3.length c3) = WF at *
  clear qc qf q0c q1c q2c z0 z1 z2 z3 zf0 zf1 zf2 zf3
  have k0 := RR.2.1 0 _ rfl
  have k1 := RR.2.1 1 _ rfl
  have k2 := RR.2.1 2 _ rfl
  have k3 := RR.2.1 3 _ rfl
  refine bodyPost_ret (v := .tuple #[.agg #[.int .i64 ((t[0]).toNat : Int), .slice a1 l1.length c1, .slice a2 l2.length c2, .slice a3 l3.length c3], .bool true]) (by simp [results, Tryz.results43, go_sem, k0, k1, k2, k3]) rfl ?_
  rw [HV.out, HN.out]
  exact ⟨a1, c1, a2, c2, a3, c3, rfl, ⟨own_mono p1 (by omega), own_mono p2 (by omega), own_mono p3 (by omega), f12, f13, f23⟩, XX⟩
end Go.Proofs.YtkphipgfcbckcaaGreatDoor
