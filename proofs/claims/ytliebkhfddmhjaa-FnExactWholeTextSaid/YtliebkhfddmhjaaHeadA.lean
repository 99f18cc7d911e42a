/- Head2, Head3, Head4, HdBack in one text. -/
import Derived.Test.YtliebkhfddmhjaaStrA
import Derived.Test.YtliebkhfddmhjaaCore
import Derived.Test.YtliebkhfddmhjaaFields
namespace Go.Proofs.Ytliebkhfddmhjaa
open Go.RowKit

theorem headOk_true {h ep : Int} {r p : ByteArray} (hh : headOk h ep r p = true) : (0 ≤ h ∧ h ≤ 2) ∧ (1 ≤ ep ∧ ep ≤ 4) ∧ r.size = 16 ∧ p.size ≤ 16 ∧ ((ep = 1 ∧ p.size = 0) ∨ (ep ≠ 1 ∧ p.size = 16)) := by
  simp only [headOk, Bool.and_eq_true, inB_true, decide_eq_true_eq] at hh
  obtain ⟨h1, h2, h3, h4⟩ := hh
  refine ⟨h1, h2, h3, ?_⟩
  split at h4 <;> rename_i he <;> rw [decide_eq_true_eq] at h4
  · exact ⟨by omega, Or.inl ⟨he, h4⟩⟩
  · exact ⟨by omega, Or.inr ⟨he, h4⟩⟩
def headText (h ep : Int) (r p : ByteArray) : ByteArray := if headOk h ep r p then strOfNums [h, ep] ++ r ++ p else ⟨#[]⟩

set_option maxHeartbeats 400000 in
theorem impl_HeadText (h ep : Int) (r p : ByteArray) (w : World) :
    Calls Try.prog 90 #[.agg #[.int .i64 h, .int .i64 ep, .string r, .string p]] w fun e w' => e = .returned (.tuple #[.string (headText h ep r p), .bool (headOk h ep r p)]) ∧ Ext w w' := by
  cases hh : headOk h ep r p
  · have H := Lib.hid hh
    clear hh
    go_enter Try.func90, Try.ntmps90
    go_wp2_with (go_at_call 96; refine (impl_HeadOk _ _ _ _ _).mono ?_; rw [H.out]; rintro e w1 ⟨rfl, x1⟩; have E_x1 := Old.of x1; (repeat (first | (replace E_x1 := Old.undrew E_x1) | (replace E_x1 := Old.undrewN E_x1))); have c_E_x1 := Old.cell E_x1; have f_E_x1 := Old.frozen E_x1; have z_E_x1 := Old.size E_x1; try simp only [World.size_alloc] at c_E_x1 f_E_x1 z_E_x1; try have l_E_x1 := Nat.lt_of_succ_le z_E_x1; try have m_E_x1 := Nat.lt_of_succ_lt l_E_x1; try have n_E_x1 := Nat.lt_of_succ_lt m_E_x1)
    go_ret2
    exact ⟨by simp [headText, H.out], (by repeat (first | (with_reducible first | exact Ext.refl _ | assumption | apply Ext.alloc | apply Ext.drew | apply Ext.drewN | refine Ext.setCell ?_ ?_ _ | refine Ext.trans ?_ (by assumption)) | (show _ ≤ _; first | omega | (dsimp only; omega) | (simp; done) | (simp; omega))))⟩
  · obtain ⟨⟨a1, a2⟩, ⟨a3, a4⟩, a5, a6, -⟩ := headOk_true hh
    have H := Lib.hid hh
    have H5 := Lib.hid a5
    have a7 : r.size ≤ 16 := by omega
    clear hh a5
    have hcv := conv_lit2
    have e1 : h % 256 = h := by omega
    have e2 : ep % 256 = ep := by omega
    have hsz : (strOfNums [h, ep]).size = 2 := strOfNums_size _
    go_enter Try.func90, Try.ntmps90
    go_wp2_with (go_at_call 96; refine (impl_HeadOk _ _ _ _ _).mono ?_; rw [H.out]; rintro e w1 ⟨rfl, x1⟩; have E_x1 := Old.of x1; (repeat (first | (replace E_x1 := Old.undrew E_x1) | (replace E_x1 := Old.undrewN E_x1))); have c_E_x1 := Old.cell E_x1; have f_E_x1 := Old.frozen E_x1; have z_E_x1 := Old.size E_x1; try simp only [World.size_alloc] at c_E_x1 f_E_x1 z_E_x1; try have l_E_x1 := Nat.lt_of_succ_le z_E_x1; try have m_E_x1 := Nat.lt_of_succ_lt l_E_x1; try have n_E_x1 := Nat.lt_of_succ_lt m_E_x1)
    go_ret2
    exact ⟨by simp [headText, H.out], (by repeat (first | (with_reducible first | exact Ext.refl _ | assumption | apply Ext.alloc | apply Ext.drew | apply Ext.drewN | refine Ext.setCell ?_ ?_ _ | refine Ext.trans ?_ (by assumption)) | (show _ ≤ _; first | omega | (dsimp only; omega) | (simp; done) | (simp; omega))))⟩
end Go.Proofs.Ytliebkhfddmhjaa
namespace Go.Proofs.Ytliebkhfddmhjaa
open Go.RowKit

theorem spec_HeadText (h ep : Int) (r p : ByteArray) (w : World) :
    Calls Try.prog 69 #[.agg #[.int .i64 h, .int .i64 ep, .string r, .string p]] w fun e w' => e = .returned (.tuple #[.string (headText h ep r p), .bool (headOk h ep r p)]) ∧ Ext w w' := by
  cases hh : headOk h ep r p
  · have H := Lib.hid hh
    clear hh
    go_enter Try.func69, Try.ntmps69
    go_wp2_with (go_at_call 66; refine (spec_HeadOk _ _ _ _ _).mono ?_; rw [H.out]; rintro e w1 ⟨rfl, x1⟩; have E_x1 := Old.of x1; (repeat (first | (replace E_x1 := Old.undrew E_x1) | (replace E_x1 := Old.undrewN E_x1))); have c_E_x1 := Old.cell E_x1; have f_E_x1 := Old.frozen E_x1; have z_E_x1 := Old.size E_x1; try simp only [World.size_alloc] at c_E_x1 f_E_x1 z_E_x1; try have l_E_x1 := Nat.lt_of_succ_le z_E_x1; try have m_E_x1 := Nat.lt_of_succ_lt l_E_x1; try have n_E_x1 := Nat.lt_of_succ_lt m_E_x1)
    go_ret2
    exact ⟨by simp [headText, H.out], (by repeat (first | (with_reducible first | exact Ext.refl _ | assumption | apply Ext.alloc | apply Ext.drew | apply Ext.drewN | refine Ext.setCell ?_ ?_ _ | refine Ext.trans ?_ (by assumption)) | (show _ ≤ _; first | omega | (dsimp only; omega) | (simp; done) | (simp; omega))))⟩
  · obtain ⟨⟨a1, a2⟩, ⟨a3, a4⟩, a5, a6, -⟩ := headOk_true hh
    have H := Lib.hid hh
    have H5 := Lib.hid a5
    have a7 : r.size ≤ 16 := by omega
    clear hh a5
    have hcv := conv_lit2
    have e1 : h % 256 = h := by omega
    have e2 : ep % 256 = ep := by omega
    have hsz : (strOfNums [h, ep]).size = 2 := strOfNums_size _
    go_enter Try.func69, Try.ntmps69
    go_wp2_with (go_at_call 66; refine (spec_HeadOk _ _ _ _ _).mono ?_; rw [H.out]; rintro e w1 ⟨rfl, x1⟩; have E_x1 := Old.of x1; (repeat (first | (replace E_x1 := Old.undrew E_x1) | (replace E_x1 := Old.undrewN E_x1))); have c_E_x1 := Old.cell E_x1; have f_E_x1 := Old.frozen E_x1; have z_E_x1 := Old.size E_x1; try simp only [World.size_alloc] at c_E_x1 f_E_x1 z_E_x1; try have l_E_x1 := Nat.lt_of_succ_le z_E_x1; try have m_E_x1 := Nat.lt_of_succ_lt l_E_x1; try have n_E_x1 := Nat.lt_of_succ_lt m_E_x1)
    go_ret2
    exact ⟨by simp [headText, H.out], (by repeat (first | (with_reducible first | exact Ext.refl _ | assumption | apply Ext.alloc | apply Ext.drew | apply Ext.drewN | refine Ext.setCell ?_ ?_ _ | refine Ext.trans ?_ (by assumption)) | (show _ ≤ _; first | omega | (dsimp only; omega) | (simp; done) | (simp; omega))))⟩

/-- the head that a text of 18 bytes or more tells -/
def rdHouse (t : ByteArray) : Int := oneOf t 0 false
def rdEpoch (t : ByteArray) : Int := oneOf t 1 false
def rdRoot (t : ByteArray) : ByteArray := t.extract 2 18
def rdPrev (t : ByteArray) : ByteArray := t.extract 18 t.size
/-- is a text the text of a head? -/
def rdHead (t : ByteArray) : Bool := decide (18 ≤ t.size) && headOk (rdHouse t) (rdEpoch t) (rdRoot t) (rdPrev t)

def hdH (t : ByteArray) : Int := if rdHead t = true then rdHouse t else 0
def hdE (t : ByteArray) : Int := if rdHead t = true then rdEpoch t else 0
def hdR (t : ByteArray) : ByteArray := if rdHead t = true then rdRoot t else ⟨#[]⟩
def hdP (t : ByteArray) : ByteArray := if rdHead t = true then rdPrev t else ⟨#[]⟩
theorem hd_false {t : ByteArray} (h : rdHead t = false) : hdH t = 0 ∧ hdE t = 0 ∧ hdR t = ⟨#[]⟩ ∧ hdP t = ⟨#[]⟩ := by simp [hdH, hdE, hdR, hdP, h]
theorem hd_true {t : ByteArray} (h : rdHead t = true) : hdH t = rdHouse t ∧ hdE t = rdEpoch t ∧ hdR t = rdRoot t ∧ hdP t = rdPrev t := by simp [hdH, hdE, hdR, hdP, h]

set_option maxHeartbeats 800000 in
theorem spec_ReadHead (t : ByteArray) (w : World) (hs : t.size ≤ 1099511627776) :
    Calls Try.prog 22 #[.string t] w fun e w' => e = .returned (.tuple #[.agg #[.int .i64 (hdH t), .int .i64 (hdE t), .string (hdR t), .string (hdP t)], .bool (rdHead t)]) ∧ Ext w w' := by
  by_cases hlt : t.size < 18
  · have hr : rdHead t = false := by simp [rdHead]; omega
    have HR := Lib.hid hr
    obtain ⟨f1, f2, f3, f4⟩ := hd_false hr
    rw [f1, f2, f3, f4, hr]
    clear hr f1 f2 f3 f4
    go_enter Try.func22, Try.ntmps22
    go_wp2
    refine bodyPost_ret (v := .tuple #[.agg #[.int .i64 0, .int .i64 0, .string ⟨#[]⟩, .string ⟨#[]⟩], .bool false]) (by simp [results, Try.results22, go_sem]) rfl ⟨rfl, (by repeat (first | (with_reducible first | exact Ext.refl _ | assumption | apply Ext.alloc | apply Ext.drew | apply Ext.drewN | refine Ext.setCell ?_ ?_ _ | refine Ext.trans ?_ (by assumption)) | (show _ ≤ _; first | omega | (dsimp only; omega) | (simp; done) | (simp; omega))))⟩
  · have h0 : 0 < t.size := by omega
    have h1 : 1 < t.size := by omega
    have e0 : (t[0].toNat : Int) = rdHouse t := by simp only [rdHouse, oneOf]; rw [dif_pos (by simpa using h0)]; simp
    have e1 : (t[1].toNat : Int) = rdEpoch t := by simp only [rdEpoch, oneOf]; rw [dif_pos (by simpa using h1)]; simp
    have w0 := wrap64_byte t[0]
    have w1' := wrap64_byte t[1]
    rw [e0] at w0
    rw [e1] at w1'
    cases hh : headOk (rdHouse t) (rdEpoch t) (t.extract 2 18) (t.extract 18 t.size)
    · have hr : rdHead t = false := by simp [rdHead, rdRoot, rdPrev, hh]
      have H := Lib.hid hh
      obtain ⟨f1, f2, f3, f4⟩ := hd_false hr
      rw [f1, f2, f3, f4, hr]
      clear hr hh f1 f2 f3 f4
      go_enter Try.func22, Try.ntmps22
      go_wp2
      go_region
      go_wp2_with (go_at_call 66; refine (spec_HeadOk _ _ _ _ _).mono ?_; rw [H.out]; rintro e w1 ⟨rfl, x1⟩; have E_x1 := Old.of x1; (repeat (first | (replace E_x1 := Old.undrew E_x1) | (replace E_x1 := Old.undrewN E_x1))); have c_E_x1 := Old.cell E_x1; have f_E_x1 := Old.frozen E_x1; have z_E_x1 := Old.size E_x1; try simp only [World.size_alloc] at c_E_x1 f_E_x1 z_E_x1; try have l_E_x1 := Nat.lt_of_succ_le z_E_x1; try have m_E_x1 := Nat.lt_of_succ_lt l_E_x1; try have n_E_x1 := Nat.lt_of_succ_lt m_E_x1)
      have q0 := c_E_x1 (w.heap.size) 0 (by omega); simp [go_sem] at q0; have q1 := c_E_x1 (w.heap.size) 1 (by omega); simp [go_sem] at q1; have q2 := c_E_x1 (w.heap.size) 2 (by omega); simp [go_sem] at q2; have q3 := c_E_x1 (w.heap.size) 3 (by omega); simp [go_sem] at q3
      refine bodyPost_ret (v := .tuple #[.agg #[.int .i64 0, .int .i64 0, .string ⟨#[]⟩, .string ⟨#[]⟩], .bool false]) (by simp [results, Try.results22, go_sem, q0, q1, q2, q3]) rfl ⟨rfl, (by repeat (first | (with_reducible first | exact Ext.refl _ | assumption | apply Ext.alloc | apply Ext.drew | apply Ext.drewN | refine Ext.setCell ?_ ?_ _ | refine Ext.trans ?_ (by assumption)) | (show _ ≤ _; first | omega | (dsimp only; omega) | (simp; done) | (simp; omega))))⟩
    · have hr : rdHead t = true := by simp [rdHead, rdRoot, rdPrev, hh]; omega
      have H := Lib.hid hh
      obtain ⟨f1, f2, f3, f4⟩ := hd_true hr
      rw [f1, f2, f3, f4, hr]
      clear hr hh f1 f2 f3 f4
      go_enter Try.func22, Try.ntmps22
      go_wp2
      go_region
      go_wp2_with (go_at_call 66; refine (spec_HeadOk _ _ _ _ _).mono ?_; rw [H.out]; rintro e w1 ⟨rfl, x1⟩; have E_x1 := Old.of x1; (repeat (first | (replace E_x1 := Old.undrew E_x1) | (replace E_x1 := Old.undrewN E_x1))); have c_E_x1 := Old.cell E_x1; have f_E_x1 := Old.frozen E_x1; have z_E_x1 := Old.size E_x1; try simp only [World.size_alloc] at c_E_x1 f_E_x1 z_E_x1; try have l_E_x1 := Nat.lt_of_succ_le z_E_x1; try have m_E_x1 := Nat.lt_of_succ_lt l_E_x1; try have n_E_x1 := Nat.lt_of_succ_lt m_E_x1)
      have q0 := c_E_x1 (w.heap.size) 0 (by omega); simp [go_sem] at q0; have q1 := c_E_x1 (w.heap.size) 1 (by omega); simp [go_sem] at q1; have q2 := c_E_x1 (w.heap.size) 2 (by omega); simp [go_sem] at q2; have q3 := c_E_x1 (w.heap.size) 3 (by omega); simp [go_sem] at q3
      refine bodyPost_ret (v := .tuple #[.agg #[.int .i64 (rdHouse t), .int .i64 (rdEpoch t), .string (t.extract 2 18), .string (t.extract 18 t.size)], .bool true]) (by simp [results, Try.results22, go_sem, q0, q1, q2, q3]) rfl ⟨rfl, (by repeat (first | (with_reducible first | exact Ext.refl _ | assumption | apply Ext.alloc | apply Ext.drew | apply Ext.drewN | refine Ext.setCell ?_ ?_ _ | refine Ext.trans ?_ (by assumption)) | (show _ ≤ _; first | omega | (dsimp only; omega) | (simp; done) | (simp; omega))))⟩

theorem head_short {t : ByteArray} (h : t.size < 18) : bytesBad t (bytesAt t (bytesAt t 0 false 1) (bytesBad t 0 false 1) 1) (bytesBad t (bytesAt t 0 false 1) (bytesBad t 0 false 1) 1) 16 = true := by
  by_cases h1 : t.size < 1
  · rw [(bytes_no (t := t) (a := 0) (n := 1) (by omega)).1, (bytes_bad ..).1]
    exact (bytes_bad ..).1
  · obtain ⟨e1, e2, -⟩ := bytes_yes (t := t) (a := 0) (n := 1) (by omega)
    rw [e1, e2]
    by_cases h2 : t.size < 2
    · rw [(bytes_no (t := t) (a := 0 + 1) (n := 1) (by omega)).1]
      exact (bytes_bad ..).1
    · obtain ⟨e1, e2, -⟩ := bytes_yes (t := t) (a := 0 + 1) (n := 1) (by omega)
      rw [e1, e2]
      exact (bytes_no (by omega)).1

set_option maxHeartbeats 1600000 in
theorem impl_ReadHead (t : ByteArray) (w : World) (hs : t.size ≤ 1099511627776) :
    Calls Try.prog 70 #[.string t] w fun e w' => e = .returned (.tuple #[.agg #[.int .i64 (hdH t), .int .i64 (hdE t), .string (hdR t), .string (hdP t)], .bool (rdHead t)]) ∧ Ext w w' := by
  have b0 : (0 : Int) ≤ 0 ∧ (0 : Int) ≤ t.size := by omega
  by_cases hlt : t.size < 18
  · have hr : rdHead t = false := by simp [rdHead]; omega
    have hbad := head_short hlt
    have b1 := bytesAt_bd (x := false) (n := 1) b0 (by omega)
    have b2 := bytesAt_bd (x := bytesBad t 0 false 1) (n := 1) b1 (by omega)
    obtain ⟨f1, f2, f3, f4⟩ := hd_false hr
    rw [f1, f2, f3, f4, hr]
    clear hr f1 f2 f3 f4 hlt
    generalize g1 : bytesAt t 0 false 1 = a1 at *
    generalize g2 : bytesBad t 0 false 1 = d1 at *
    generalize g3 : bytesAt t a1 d1 1 = a2 at *
    generalize g4 : bytesBad t a1 d1 1 = d2 at *
    have G1 := Lib.hid g1; have G2 := Lib.hid g2; have G3 := Lib.hid g3; have G4 := Lib.hid g4; have HB := Lib.hid hbad
    clear g1 g2 g3 g4 hbad
    go_enter Try.func70, Try.ntmps70
    go_wp2_with fail
    refine (impl_fields_one (w.heap.size + 1) t 0 false _ ⟨by simp [go_sem], by simp [go_sem], by simp [go_sem], fun o => by simp [go_sem]⟩ b0 hs).mono ?_
    rw [G1.out, G2.out]
    rintro e w1 ⟨rfl, m1, f1⟩
    go_wp2_with fail
    refine (impl_fields_one (w.heap.size + 1) t a1 d1 _ f1 b1 hs).mono ?_
    rw [G3.out, G4.out]
    rintro e w2 ⟨rfl, m2, f2⟩
    go_wp2_with fail
    refine (impl_fields_bytes (w.heap.size + 1) t a2 d2 16 _ f2 b2 (by omega) hs).mono ?_
    rw [HB.out]
    rintro e w3 ⟨rfl, m3, f3⟩
    have M := (m1.trans m2).trans m3
    have hz := M.size
    simp only [World.size_alloc] at hz
    have X3 : Ext w w3 := Ext.mut (((Ext.refl w).alloc _).alloc _) M (by omega)
    have q0 := M.cell w.heap.size 0 (by simp; omega) (by omega)
    have q1 := M.cell w.heap.size 1 (by simp; omega) (by omega)
    have q2 := M.cell w.heap.size 2 (by simp; omega) (by omega)
    have q3 := M.cell w.heap.size 3 (by simp; omega) (by omega)
    simp [go_sem] at q0 q1 q2 q3
    have z0 : ∀ o, w3.frozen? ⟨w.heap.size, o, none⟩ = false := fun o => by rw [M.frozen w.heap.size o (by simp; omega) (by omega)]; simp [go_sem]
    have k0 := f3.c2
    have l1 : w.heap.size < w3.heap.size := by omega
    have l2 : w.heap.size + 1 < w3.heap.size := by omega
    go_wp2
    refine bodyPost_ret (v := .tuple #[.agg #[.int .i64 0, .int .i64 0, .string ⟨#[]⟩, .string ⟨#[]⟩], .bool false]) (by simp [results, Try.results70, go_sem, q0, q1, q2, q3, l1]) rfl ⟨rfl, (by repeat (first | (with_reducible first | exact Ext.refl _ | assumption | apply Ext.alloc | apply Ext.drew | apply Ext.drewN | refine Ext.setCell ?_ ?_ _ | refine Ext.trans ?_ (by assumption)) | (show _ ≤ _; first | omega | (dsimp only; omega) | (simp; done) | (simp; omega))))⟩
  · have h0 : 0 < t.size := by omega
    have h1 : 1 < t.size := by omega
    have e0 : oneOf t 0 false = rdHouse t := rfl
    have e1 : oneOf t 1 false = rdEpoch t := rfl
    obtain ⟨u1, u2, -⟩ := bytes_yes (t := t) (a := 0) (n := 1) (by omega)
    obtain ⟨u3, u4, -⟩ := bytes_yes (t := t) (a := 1) (n := 1) (by omega)
    obtain ⟨u5, u6, u7⟩ := bytes_yes (t := t) (a := 2) (n := 16) (by omega)
    rw [show (0 : Int) + 1 = 1 from rfl] at u2
    rw [show (1 : Int) + 1 = 2 from rfl] at u4
    rw [show (2 : Int) + 16 = 18 from rfl] at u6 u7
    have u7' : bytesOf t 2 false 16 = t.extract 2 18 := u7
    have U1 := Lib.hid u1; have U2 := Lib.hid u2; have U3 := Lib.hid u3; have U4 := Lib.hid u4; have U5 := Lib.hid u5; have U6 := Lib.hid u6; have U7 := Lib.hid u7'; have E0 := Lib.hid e0; have E1 := Lib.hid e1
    clear u1 u2 u3 u4 u5 u6 u7 u7' e0 e1
    have c1 : (0 : Int) ≤ 1 ∧ (1 : Int) ≤ t.size := by omega
    have c2 : (0 : Int) ≤ 2 ∧ (2 : Int) ≤ t.size := by omega
    cases hh : headOk (rdHouse t) (rdEpoch t) (t.extract 2 18) (t.extract 18 t.size)
    · have hr : rdHead t = false := by simp [rdHead, rdRoot, rdPrev, hh]
      have H := Lib.hid hh
      obtain ⟨f1, f2, f3, f4⟩ := hd_false hr
      rw [f1, f2, f3, f4, hr]
      clear hr hh f1 f2 f3 f4
      go_enter Try.func70, Try.ntmps70
      go_wp2_with fail
      refine (impl_fields_one (w.heap.size + 1) t 0 false _ ⟨by simp [go_sem], by simp [go_sem], by simp [go_sem], fun o => by simp [go_sem]⟩ b0 hs).mono ?_
      rw [E0.out, U1.out, U2.out]
      rintro e w1 ⟨rfl, m1, f1⟩
      go_wp2_with fail
      refine (impl_fields_one (w.heap.size + 1) t 1 false _ f1 c1 hs).mono ?_
      rw [E1.out, U3.out, U4.out]
      rintro e w2 ⟨rfl, m2, f2⟩
      go_wp2_with fail
      refine (impl_fields_bytes (w.heap.size + 1) t 2 false 16 _ f2 c2 (by omega) hs).mono ?_
      rw [U5.out, U6.out, U7.out]
      rintro e w3 ⟨rfl, m3, f3⟩
      have M := (m1.trans m2).trans m3
      have hz := M.size
      simp only [World.size_alloc] at hz
      have X3 : Ext w w3 := Ext.mut (((Ext.refl w).alloc _).alloc _) M (by omega)
      have q0 := M.cell w.heap.size 0 (by simp; omega) (by omega)
      have q1 := M.cell w.heap.size 1 (by simp; omega) (by omega)
      have q2 := M.cell w.heap.size 2 (by simp; omega) (by omega)
      have q3 := M.cell w.heap.size 3 (by simp; omega) (by omega)
      simp [go_sem] at q0 q1 q2 q3
      have z0 : ∀ o, w3.frozen? ⟨w.heap.size, o, none⟩ = false := fun o => by rw [M.frozen w.heap.size o (by simp; omega) (by omega)]; simp [go_sem]
      have k0 := f3.c2
      have k1 := f3.c1
      have l1 : w.heap.size < w3.heap.size := by omega
      have l2 : w.heap.size + 1 < w3.heap.size := by omega
      go_wp2_with fail
      refine (impl_HeadOk _ _ _ _ _).mono ?_
      rw [H.out]
      rintro e w4 ⟨rfl, x4⟩
      have E_x4 := Old.of x4; (repeat (first | (replace E_x4 := Old.undrew E_x4) | (replace E_x4 := Old.undrewN E_x4))); have c_E_x4 := Old.cell E_x4; have f_E_x4 := Old.frozen E_x4; have z_E_x4 := Old.size E_x4; try simp only [World.size_alloc] at c_E_x4 f_E_x4 z_E_x4; try have l_E_x4 := Nat.lt_of_succ_le z_E_x4; try have m_E_x4 := Nat.lt_of_succ_lt l_E_x4; try have n_E_x4 := Nat.lt_of_succ_lt m_E_x4
      have p0 := c_E_x4 w.heap.size 0 (by omega)
      have p1 := c_E_x4 w.heap.size 1 (by omega)
      have p2 := c_E_x4 w.heap.size 2 (by omega)
      have p3 := c_E_x4 w.heap.size 3 (by omega)
      simp [go_sem, l1, q0, q1, q2, q3] at p0 p1 p2 p3
      have l4 : w.heap.size < w4.heap.size := by omega
      go_wp2
      refine bodyPost_ret (v := .tuple #[.agg #[.int .i64 0, .int .i64 0, .string ⟨#[]⟩, .string ⟨#[]⟩], .bool false]) (by simp [results, Try.results70, go_sem, p0, p1, p2, p3]) rfl ⟨rfl, (by repeat (first | (with_reducible first | exact Ext.refl _ | assumption | apply Ext.alloc | apply Ext.drew | apply Ext.drewN | refine Ext.setCell ?_ ?_ _ | refine Ext.trans ?_ (by assumption)) | (show _ ≤ _; first | omega | (dsimp only; omega) | (simp; done) | (simp; omega))))⟩
    · have hr : rdHead t = true := by simp [rdHead, rdRoot, rdPrev, hh]; omega
      have H := Lib.hid hh
      obtain ⟨f1, f2, f3, f4⟩ := hd_true hr
      rw [f1, f2, f3, f4, hr]
      clear hr hh f1 f2 f3 f4
      go_enter Try.func70, Try.ntmps70
      go_wp2_with fail
      refine (impl_fields_one (w.heap.size + 1) t 0 false _ ⟨by simp [go_sem], by simp [go_sem], by simp [go_sem], fun o => by simp [go_sem]⟩ b0 hs).mono ?_
      rw [E0.out, U1.out, U2.out]
      rintro e w1 ⟨rfl, m1, f1⟩
      go_wp2_with fail
      refine (impl_fields_one (w.heap.size + 1) t 1 false _ f1 c1 hs).mono ?_
      rw [E1.out, U3.out, U4.out]
      rintro e w2 ⟨rfl, m2, f2⟩
      go_wp2_with fail
      refine (impl_fields_bytes (w.heap.size + 1) t 2 false 16 _ f2 c2 (by omega) hs).mono ?_
      rw [U5.out, U6.out, U7.out]
      rintro e w3 ⟨rfl, m3, f3⟩
      have M := (m1.trans m2).trans m3
      have hz := M.size
      simp only [World.size_alloc] at hz
      have X3 : Ext w w3 := Ext.mut (((Ext.refl w).alloc _).alloc _) M (by omega)
      have q0 := M.cell w.heap.size 0 (by simp; omega) (by omega)
      have q1 := M.cell w.heap.size 1 (by simp; omega) (by omega)
      have q2 := M.cell w.heap.size 2 (by simp; omega) (by omega)
      have q3 := M.cell w.heap.size 3 (by simp; omega) (by omega)
      simp [go_sem] at q0 q1 q2 q3
      have z0 : ∀ o, w3.frozen? ⟨w.heap.size, o, none⟩ = false := fun o => by rw [M.frozen w.heap.size o (by simp; omega) (by omega)]; simp [go_sem]
      have k0 := f3.c2
      have k1 := f3.c1
      have l1 : w.heap.size < w3.heap.size := by omega
      have l2 : w.heap.size + 1 < w3.heap.size := by omega
      go_wp2_with fail
      refine (impl_HeadOk _ _ _ _ _).mono ?_
      rw [H.out]
      rintro e w4 ⟨rfl, x4⟩
      have E_x4 := Old.of x4; (repeat (first | (replace E_x4 := Old.undrew E_x4) | (replace E_x4 := Old.undrewN E_x4))); have c_E_x4 := Old.cell E_x4; have f_E_x4 := Old.frozen E_x4; have z_E_x4 := Old.size E_x4; try simp only [World.size_alloc] at c_E_x4 f_E_x4 z_E_x4; try have l_E_x4 := Nat.lt_of_succ_le z_E_x4; try have m_E_x4 := Nat.lt_of_succ_lt l_E_x4; try have n_E_x4 := Nat.lt_of_succ_lt m_E_x4
      have p0 := c_E_x4 w.heap.size 0 (by omega)
      have p1 := c_E_x4 w.heap.size 1 (by omega)
      have p2 := c_E_x4 w.heap.size 2 (by omega)
      have p3 := c_E_x4 w.heap.size 3 (by omega)
      simp [go_sem, l1, q0, q1, q2, q3] at p0 p1 p2 p3
      have l4 : w.heap.size < w4.heap.size := by omega
      go_wp2
      refine bodyPost_ret (v := .tuple #[.agg #[.int .i64 (rdHouse t), .int .i64 (rdEpoch t), .string (t.extract 2 18), .string (t.extract 18 t.size)], .bool true]) (by simp [results, Try.results70, go_sem, p0, p1, p2, p3]) rfl ⟨rfl, (by repeat (first | (with_reducible first | exact Ext.refl _ | assumption | apply Ext.alloc | apply Ext.drew | apply Ext.drewN | refine Ext.setCell ?_ ?_ _ | refine Ext.trans ?_ (by assumption)) | (show _ ≤ _; first | omega | (dsimp only; omega) | (simp; done) | (simp; omega))))⟩
end Go.Proofs.Ytliebkhfddmhjaa
namespace Go.Proofs.Ytliebkhfddmhjaa
open Go.RowKit

theorem laws_eqHead (h1 e1 h2 e2 : Int) (r1 p1 r2 p2 : ByteArray) (w : World) :
    Calls Try.prog 28 #[.agg #[.int .i64 h1, .int .i64 e1, .string r1, .string p1], .agg #[.int .i64 h2, .int .i64 e2, .string r2, .string p2]] w fun e w' => e = .returned (.bool (decide (h1 = h2) && (decide (e1 = e2) && (decide (r1 = r2) && decide (p1 = p2))))) ∧ Ext w w' := by
  go_enter Try.func28, Try.ntmps28
  go_wp2
  all_goals go_ret
  all_goals refine ⟨ret_bool ?_, (by repeat (first | (with_reducible first | exact Ext.refl _ | assumption | apply Ext.alloc | apply Ext.drew | apply Ext.drewN | refine Ext.setCell ?_ ?_ _ | refine Ext.trans ?_ (by assumption)) | (show _ ≤ _; first | omega | (dsimp only; omega) | (simp; done) | (simp; omega))))⟩
  all_goals simp_all [toList_inj]

end Go.Proofs.Ytliebkhfddmhjaa
namespace Go.Proofs.Ytliebkhfddmhjaa
open Go.RowKit

theorem one_at (t : ByteArray) (i : Nat) (hi : i < t.size) : oneOf t i false = ((t.data.toList.getD i 0).toNat : Int) := by
  have h : (false = false ∧ (0 : Int) ≤ (i : Int) ∧ (i : Int).toNat < t.size) := ⟨rfl, by omega, by simpa using hi⟩
  have hl : i < t.data.toList.length := by rw [ba_len]; exact hi
  rw [oneOf, dif_pos h, List.getD_eq_getElem?_getD, List.getElem?_eq_getElem hl]
  rfl
theorem head_list {h ep : Int} {r p : ByteArray} (hh : headOk h ep r p = true) : (headText h ep r p).data.toList = UInt8.ofNat h.toNat :: UInt8.ofNat ep.toNat :: (r.data.toList ++ p.data.toList) := by
  rw [headText, if_pos hh, ba_append, ba_append, ba_nums]
  rfl
/-- what is read of a head's text is the head -/
theorem head_back {h ep : Int} {r p : ByteArray} (hh : headOk h ep r p = true) : rdHead (headText h ep r p) = true ∧ hdH (headText h ep r p) = h ∧ hdE (headText h ep r p) = ep ∧ hdR (headText h ep r p) = r ∧ hdP (headText h ep r p) = p := by
  obtain ⟨h0, h1, h2, h3, h4⟩ := headOk_true hh
  have hl := head_list hh
  have hrl : r.data.toList.length = 16 := by rw [ba_len]; exact h2
  generalize ht : headText h ep r p = t at *
  have hsz : t.size = 18 + p.size := by rw [← ba_len, hl]; simp; rw [h2]; omega
  have e0 : rdHouse t = h := by
    have := one_at t 0 (by omega)
    rw [hl] at this
    exact this.trans (nat8 (by omega))
  have e1 : rdEpoch t = ep := by
    have := one_at t 1 (by omega)
    rw [hl] at this
    exact this.trans (nat8 (by omega))
  have e2 : rdRoot t = r := by
    apply ba_ext
    rw [rdRoot, ba_extract, hl]
    simp only [List.drop_succ_cons, List.drop_zero]
    rw [List.take_append_of_le_length (by omega), List.take_of_length_le (by omega)]
  have e3 : rdPrev t = p := by
    apply ba_ext
    rw [rdPrev, ba_extract, hl]
    simp only [List.drop_succ_cons]
    rw [List.drop_append_of_le_length (by omega), List.drop_eq_nil_of_le (by omega), List.nil_append, List.take_of_length_le (by rw [ba_len]; omega)]
  have hr : rdHead t = true := by
    rw [rdHead, e0, e1, e2, e3, hh, decide_eq_true (by omega)]; rfl
  obtain ⟨k0, k1, k2, k3⟩ := hd_true hr
  exact ⟨hr, k0.trans e0, k1.trans e1, k2.trans e2, k3.trans e3⟩
/-- the text of what is read of a text is the text -/
theorem text_back {t : ByteArray} (hr : rdHead t = true) : headOk (hdH t) (hdE t) (hdR t) (hdP t) = true ∧ headText (hdH t) (hdE t) (hdR t) (hdP t) = t := by
  obtain ⟨k0, k1, k2, k3⟩ := hd_true hr
  rw [k0, k1, k2, k3]
  have hr' := hr
  rw [rdHead, Bool.and_eq_true] at hr'
  obtain ⟨hs, hh⟩ := hr'
  have hs := of_decide_eq_true hs
  refine ⟨hh, ?_⟩
  apply ba_ext
  rw [head_list hh, rdRoot, rdPrev, ba_extract, ba_extract]
  have e0 : UInt8.ofNat (rdHouse t).toNat = t.data.toList.getD 0 0 := by
    have := one_at t 0 (by omega)
    rw [rdHouse, show oneOf t 0 false = _ from this]
    simp
  have e1 : UInt8.ofNat (rdEpoch t).toNat = t.data.toList.getD 1 0 := by
    have := one_at t 1 (by omega)
    rw [rdEpoch, show oneOf t 1 false = _ from this]
    simp
  rw [e0, e1]
  have hlen := ba_len t
  generalize t.data.toList = l at *
  rw [← hlen] at hs ⊢
  match l, hs with
  | a :: b :: l, hs =>
    simp only [List.getD_cons_zero, List.getD_cons_succ, List.drop_succ_cons, List.drop_zero]
    congr 2
    rw [show 18 - 2 = 16 by rfl]
    have : (List.drop 16 l).take ((a :: b :: l).length - 18) = List.drop 16 l := List.take_of_length_le (by simp)
    rw [this, List.take_append_drop]
/-- another root, another text -/
theorem head_other {h ep : Int} {r q p : ByteArray} (hh : headOk h ep r p = true) (hs : q.size = r.size) (hne : q ≠ r) : headText h ep q p ≠ headText h ep r p := by
  have hq : headOk h ep q p = true := by rw [← hh, headOk, headOk, hs]
  intro e
  have := congrArg (fun t : ByteArray => t.data.toList) e
  rw [head_list hh, head_list hq] at this
  simp only [List.cons.injEq, true_and] at this
  exact hne (ba_ext (List.append_inj_left this (by rw [ba_len, ba_len]; exact hs)))
end Go.Proofs.Ytliebkhfddmhjaa
