/- Head2, Head3, Head4, HdBack in one text. -/
import Derived.Test.YtckipgijfgeghaaStrA
import Derived.Test.YtckipgijfgeghaaCore
import Derived.Test.YtckipgijfgeghaaFields
namespace Go.Proofs.Ytckipgijfgeghaa
open Go.RowKit

theorem headOk_true {h ep : Int} {r p : ByteArray} (hh : headOk h ep r p = true) : (0 ≤ h ∧ h ≤ 2) ∧ (1 ≤ ep ∧ ep ≤ 4) ∧ r.size = 16 ∧ p.size ≤ 16 ∧ ((ep = 1 ∧ p.size = 0) ∨ (ep ≠ 1 ∧ p.size = 16)) := by
  simp only [headOk, Bool.and_eq_true, inB_true, decide_eq_true_eq] at hh
  obtain ⟨h1, h2, h3, h4⟩ := hh
  refine ⟨h1, h2, h3, ?_⟩
  split at h4 <;> rename_i he <;> rw [decide_eq_true_eq] at h4
  · exact ⟨by omega, Or.inl ⟨he, h4⟩⟩
  · exact ⟨by omega, Or.inr ⟨he, h4⟩⟩
def headText (h ep : Int) (r p : ByteArray) : ByteArray := if headOk h ep r p then strOfNums [h, ep] ++ r ++ p else ⟨#[]⟩

end Go.Proofs.Ytckipgijfgeghaa
namespace Go.Proofs.Ytckipgijfgeghaa
open Go.RowKit

/-- the head that a text of 18 bytes or more tells -/
def rdHouse (t : ByteArray) : Int := oneOf t 0 false
def rdEpoch (t : ByteArray) : Int := oneOf t 1 false
def rdRoot (t : ByteArray) : ByteArray := t.extract 2 18
def rdPrev (t : ByteArray) : ByteArray := t.extract 18 t.size
/-- is a text the text of a head? -/
def rdHead (t : ByteArray) : Bool := decide (18 ≤ t.size) && headOk (rdHouse t) (rdEpoch t) (rdRoot t) (rdPrev t)

def hdH (t : ByteArray) : Int := if rdHead t = true then rdHouse t else 0
def hdE (t : ByteArray) : Int := if rdHead t = true then rdEpoch t else 0
def hdR (t : ByteArray) : ByteArray := if rdHead t = true then rdRoot t else ⟨#[]⟩
def hdP (t : ByteArray) : ByteArray := if rdHead t = true then rdPrev t else ⟨#[]⟩
theorem hd_false {t : ByteArray} (h : rdHead t = false) : hdH t = 0 ∧ hdE t = 0 ∧ hdR t = ⟨#[]⟩ ∧ hdP t = ⟨#[]⟩ := by simp [hdH, hdE, hdR, hdP, h]
theorem hd_true {t : ByteArray} (h : rdHead t = true) : hdH t = rdHouse t ∧ hdE t = rdEpoch t ∧ hdR t = rdRoot t ∧ hdP t = rdPrev t := by simp [hdH, hdE, hdR, hdP, h]

theorem head_short {t : ByteArray} (h : t.size < 18) : bytesBad t (bytesAt t (bytesAt t 0 false 1) (bytesBad t 0 false 1) 1) (bytesBad t (bytesAt t 0 false 1) (bytesBad t 0 false 1) 1) 16 = true := by
  by_cases h1 : t.size < 1
  · rw [(bytes_no (t := t) (a := 0) (n := 1) (by omega)).1, (bytes_bad ..).1]
    exact (bytes_bad ..).1
  · obtain ⟨e1, e2, -⟩ := bytes_yes (t := t) (a := 0) (n := 1) (by omega)
    rw [e1, e2]
    by_cases h2 : t.size < 2
    · rw [(bytes_no (t := t) (a := 0 + 1) (n := 1) (by omega)).1]
      exact (bytes_bad ..).1
    · obtain ⟨e1, e2, -⟩ := bytes_yes (t := t) (a := 0 + 1) (n := 1) (by omega)
      rw [e1, e2]
      exact (bytes_no (by omega)).1

end Go.Proofs.Ytckipgijfgeghaa
namespace Go.Proofs.Ytckipgijfgeghaa
open Go.RowKit

end Go.Proofs.Ytckipgijfgeghaa
namespace Go.Proofs.Ytckipgijfgeghaa
open Go.RowKit

theorem one_at (t : ByteArray) (i : Nat) (hi : i < t.size) : oneOf t i false = ((t.data.toList.getD i 0).toNat : Int) := by
  have h : (false = false ∧ (0 : Int) ≤ (i : Int) ∧ (i : Int).toNat < t.size) := ⟨rfl, by omega, by simpa using hi⟩
  have hl : i < t.data.toList.length := by rw [ba_len]; exact hi
  rw [oneOf, dif_pos h, List.getD_eq_getElem?_getD, List.getElem?_eq_getElem hl]
  rfl
theorem head_list {h ep : Int} {r p : ByteArray} (hh : headOk h ep r p = true) : (headText h ep r p).data.toList = UInt8.ofNat h.toNat :: UInt8.ofNat ep.toNat :: (r.data.toList ++ p.data.toList) := by
  rw [headText, if_pos hh, ba_append, ba_append, ba_nums]
  rfl
/-- what is read of a head's text is the head -/
theorem head_back {h ep : Int} {r p : ByteArray} (hh : headOk h ep r p = true) : rdHead (headText h ep r p) = true ∧ hdH (headText h ep r p) = h ∧ hdE (headText h ep r p) = ep ∧ hdR (headText h ep r p) = r ∧ hdP (headText h ep r p) = p := by
  obtain ⟨h0, h1, h2, h3, h4⟩ := headOk_true hh
  have hl := head_list hh
  have hrl : r.data.toList.length = 16 := by rw [ba_len]; exact h2
  generalize ht : headText h ep r p = t at *
  have hsz : t.size = 18 + p.size := by rw [← ba_len, hl]; simp; rw [h2]; omega
  have e0 : rdHouse t = h := by
    have := one_at t 0 (by omega)
    rw [hl] at this
    exact this.trans (nat8 (by omega))
  have e1 : rdEpoch t = ep := by
    have := one_at t 1 (by omega)
    rw [hl] at this
    exact this.trans (nat8 (by omega))
  have e2 : rdRoot t = r := by
    apply ba_ext
    rw [rdRoot, ba_extract, hl]
    simp only [List.drop_succ_cons, List.drop_zero]
    rw [List.take_append_of_le_length (by omega), List.take_of_length_le (by omega)]
  have e3 : rdPrev t = p := by
    apply ba_ext
    rw [rdPrev, ba_extract, hl]
    simp only [List.drop_succ_cons]
    rw [List.drop_append_of_le_length (by omega), List.drop_eq_nil_of_le (by omega), List.nil_append, List.take_of_length_le (by rw [ba_len]; omega)]
  have hr : rdHead t = true := by
    rw [rdHead, e0, e1, e2, e3, hh, decide_eq_true (by omega)]; rfl
  obtain ⟨k0, k1, k2, k3⟩ := hd_true hr
  exact ⟨hr, k0.trans e0, k1.trans e1, k2.trans e2, k3.trans e3⟩
/-- the text of what is read of a text is the text -/
theorem text_back {t : ByteArray} (hr : rdHead t = true) : headOk (hdH t) (hdE t) (hdR t) (hdP t) = true ∧ headText (hdH t) (hdE t) (hdR t) (hdP t) = t := by
  obtain ⟨k0, k1, k2, k3⟩ := hd_true hr
  rw [k0, k1, k2, k3]
  have hr' := hr
  rw [rdHead, Bool.and_eq_true] at hr'
  obtain ⟨hs, hh⟩ := hr'
  have hs := of_decide_eq_true hs
  refine ⟨hh, ?_⟩
  apply ba_ext
  rw [head_list hh, rdRoot, rdPrev, ba_extract, ba_extract]
  have e0 : UInt8.ofNat (rdHouse t).toNat = t.data.toList.getD 0 0 := by
    have := one_at t 0 (by omega)
    rw [rdHouse, show oneOf t 0 false = _ from this]
    simp
  have e1 : UInt8.ofNat (rdEpoch t).toNat = t.data.toList.getD 1 0 := by
    have := one_at t 1 (by omega)
    rw [rdEpoch, show oneOf t 1 false = _ from this]
    simp
  rw [e0, e1]
  have hlen := ba_len t
  generalize t.data.toList = l at *
  rw [← hlen] at hs ⊢
  match l, hs with
  | a :: b :: l, hs =>
    simp only [List.getD_cons_zero, List.getD_cons_succ, List.drop_succ_cons, List.drop_zero]
    congr 2
    rw [show 18 - 2 = 16 by rfl]
    have : (List.drop 16 l).take ((a :: b :: l).length - 18) = List.drop 16 l := List.take_of_length_le (by simp)
    rw [this, List.take_append_drop]
/-- another root, another text -/
theorem head_other {h ep : Int} {r q p : ByteArray} (hh : headOk h ep r p = true) (hs : q.size = r.size) (hne : q ≠ r) : headText h ep q p ≠ headText h ep r p := by
  have hq : headOk h ep q p = true := by rw [← hh, headOk, headOk, hs]
  intro e
  have := congrArg (fun t : ByteArray => t.data.toList) e
  rw [head_list hh, head_list hq] at this
  simp only [List.cons.injEq, true_and] at this
  exact hne (ba_ext (List.append_inj_left this (by rw [ba_len, ba_len]; exact hs)))
end Go.Proofs.Ytckipgijfgeghaa
