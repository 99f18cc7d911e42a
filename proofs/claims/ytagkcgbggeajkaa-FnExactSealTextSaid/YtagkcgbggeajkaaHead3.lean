/- Heads: reading their texts. -/
import Derived.Test.YtagkcgbggeajkaaHead2
import Derived.Test.YtagkcgbggeajkaaFields
namespace Go.Proofs.Ytagkcgbggeajkaa
open Go.RowKit

theorem spec_HeadText (h ep : Int) (r p : ByteArray) (w : World) :
    Calls Try.prog 18 #[.agg #[.int .i64 h, .int .i64 ep, .string r, .string p]] w fun e w' => e = .returned (.tuple #[.string (headText h ep r p), .bool (headOk h ep r p)]) ∧ Ext w w' := by
  cases hh : headOk h ep r p
  · have H := Lib.hid hh
    clear hh
    go_enter Try.func18, Try.ntmps18
    go_wp2_with (go_at_call 40; refine (spec_HeadOk _ _ _ _ _).mono ?_; rw [H.out]; rintro e w1 ⟨rfl, x1⟩; have E_x1 := Old.of x1; (repeat (first | (replace E_x1 := Old.undrew E_x1) | (replace E_x1 := Old.undrewN E_x1))); have c_E_x1 := Old.cell E_x1; have f_E_x1 := Old.frozen E_x1; have z_E_x1 := Old.size E_x1; try simp only [World.size_alloc] at c_E_x1 f_E_x1 z_E_x1; try have l_E_x1 := Nat.lt_of_succ_le z_E_x1; try have m_E_x1 := Nat.lt_of_succ_lt l_E_x1; try have n_E_x1 := Nat.lt_of_succ_lt m_E_x1)
    go_ret2
    exact ⟨by simp [headText, H.out], (by repeat (first | (with_reducible first | exact Ext.refl _ | assumption | apply Ext.alloc | apply Ext.drew | apply Ext.drewN | refine Ext.setCell ?_ ?_ _ | refine Ext.trans ?_ (by assumption)) | (show _ ≤ _; first | omega | (dsimp only; omega) | (simp; done) | (simp; omega))))⟩
  · obtain ⟨⟨a1, a2⟩, ⟨a3, a4⟩, a5, a6, -⟩ := headOk_true hh
    have H := Lib.hid hh
    have H5 := Lib.hid a5
    have a7 : r.size ≤ 16 := by omega
    clear hh a5
    have hcv := conv_lit2
    have e1 : h % 256 = h := by omega
    have e2 : ep % 256 = ep := by omega
    have hsz : (strOfNums [h, ep]).size = 2 := strOfNums_size _
    go_enter Try.func18, Try.ntmps18
    go_wp2_with (go_at_call 40; refine (spec_HeadOk _ _ _ _ _).mono ?_; rw [H.out]; rintro e w1 ⟨rfl, x1⟩; have E_x1 := Old.of x1; (repeat (first | (replace E_x1 := Old.undrew E_x1) | (replace E_x1 := Old.undrewN E_x1))); have c_E_x1 := Old.cell E_x1; have f_E_x1 := Old.frozen E_x1; have z_E_x1 := Old.size E_x1; try simp only [World.size_alloc] at c_E_x1 f_E_x1 z_E_x1; try have l_E_x1 := Nat.lt_of_succ_le z_E_x1; try have m_E_x1 := Nat.lt_of_succ_lt l_E_x1; try have n_E_x1 := Nat.lt_of_succ_lt m_E_x1)
    go_ret2
    exact ⟨by simp [headText, H.out], (by repeat (first | (with_reducible first | exact Ext.refl _ | assumption | apply Ext.alloc | apply Ext.drew | apply Ext.drewN | refine Ext.setCell ?_ ?_ _ | refine Ext.trans ?_ (by assumption)) | (show _ ≤ _; first | omega | (dsimp only; omega) | (simp; done) | (simp; omega))))⟩

/-- the head that a text of 18 bytes or more tells -/
def rdHouse (t : ByteArray) : Int := oneOf t 0 false
def rdEpoch (t : ByteArray) : Int := oneOf t 1 false
def rdRoot (t : ByteArray) : ByteArray := t.extract 2 18
def rdPrev (t : ByteArray) : ByteArray := t.extract 18 t.size
/-- is a text the text of a head? -/
def rdHead (t : ByteArray) : Bool := decide (18 ≤ t.size) && headOk (rdHouse t) (rdEpoch t) (rdRoot t) (rdPrev t)

def hdH (t : ByteArray) : Int := if rdHead t = true then rdHouse t else 0
def hdE (t : ByteArray) : Int := if rdHead t = true then rdEpoch t else 0
def hdR (t : ByteArray) : ByteArray := if rdHead t = true then rdRoot t else ⟨#[]⟩
def hdP (t : ByteArray) : ByteArray := if rdHead t = true then rdPrev t else ⟨#[]⟩
theorem hd_false {t : ByteArray} (h : rdHead t = false) : hdH t = 0 ∧ hdE t = 0 ∧ hdR t = ⟨#[]⟩ ∧ hdP t = ⟨#[]⟩ := by simp [hdH, hdE, hdR, hdP, h]
theorem hd_true {t : ByteArray} (h : rdHead t = true) : hdH t = rdHouse t ∧ hdE t = rdEpoch t ∧ hdR t = rdRoot t ∧ hdP t = rdPrev t := by simp [hdH, hdE, hdR, hdP, h]

theorem head_short {t : ByteArray} (h : t.size < 18) : bytesBad t (bytesAt t (bytesAt t 0 false 1) (bytesBad t 0 false 1) 1) (bytesBad t (bytesAt t 0 false 1) (bytesBad t 0 false 1) 1) 16 = true := by
  by_cases h1 : t.size < 1
  · rw [(bytes_no (t := t) (a := 0) (n := 1) (by omega)).1, (bytes_bad ..).1]
    exact (bytes_bad ..).1
  · obtain ⟨e1, e2, -⟩ := bytes_yes (t := t) (a := 0) (n := 1) (by omega)
    rw [e1, e2]
    by_cases h2 : t.size < 2
    · rw [(bytes_no (t := t) (a := 0 + 1) (n := 1) (by omega)).1]
      exact (bytes_bad ..).1
    · obtain ⟨e1, e2, -⟩ := bytes_yes (t := t) (a := 0 + 1) (n := 1) (by omega)
      rw [e1, e2]
      exact (bytes_no (by omega)).1

end Go.Proofs.Ytagkcgbggeajkaa
