/- The draw of a text for a digest. -/
import Derived.Test.YtliebkhfddmhjaaOnc
import Derived.Test.YtliebkhfddmhjaaDrawH
import Derived.Test.YtliebkhfddmhjaaFrP
namespace Go.Proofs.Ytliebkhfddmhjaa
open Go.RowKit

theorem spec_DrawHex (v : Value) (xs : List Int) (w : World) (h : Code w w.heap.size v xs) (hl : xs.length ≤ 1048576) :
    Calls Try.prog 13 #[v] w fun e w' => ∃ s : ByteArray, e = .returned (.string s) ∧ s.size ≤ 20001 ∧ Ext w w' := by
  go_enter Try.func13, Try.ntmps13
  go_wp2_with fail
  refine (spec_l01New v xs _ h hl).mono ?_
  rintro e w1 ⟨rfl, C1, x1⟩
  generalize hB : w.heap.size = B at *
  go_wp2_with fail
  refine (spec_l01Once B 60 _ C1 (by decide)).mono ?_
  rintro e w2 ⟨q, rfl, C2, M2⟩
  have X2 := x1.mut M2 (by omega)
  cases q
  · go_wp2_with fail
    refine (spec_l01Below B 30 _ C2 (by decide)).mono ?_
    rintro e w3 ⟨x, rfl, hx, C3, M3⟩
    obtain ⟨n, rfl⟩ := Int.eq_ofNat_of_zero_le hx.1
    have X3 := X2.mut M3 (by omega)
    go_wp2_with fail
    refine (spec_l01Text B n _ C3 (by omega)).mono ?_
    rintro e w4 ⟨s, rfl, hs, C4, M4⟩
    have X4 := X3.mut M4 (by omega)
    go_wp2
    go_ret
    exact ⟨s, rfl, by omega, X4⟩
  · go_wp2_with fail
    refine (spec_l01Below B 2 _ C2 (by decide)).mono ?_
    rintro e w3 ⟨x, rfl, hx, C3, M3⟩
    obtain ⟨n, rfl⟩ := Int.eq_ofNat_of_zero_le hx.1
    have X3 := X2.mut M3 (by omega)
    have e1 : (20000 : Int) + n = ((20000 + n : Nat) : Int) := by omega
    have HE := Lib.hid e1
    clear e1
    go_wp2_with fail
    rw [HE.out]
    refine (spec_l01Long (20000 + n) 200 _ (by omega)).mono ?_
    rintro e w4 ⟨s, rfl, hs, x4⟩
    have X4 := X3.trans x4
    go_wp2
    go_ret
    exact ⟨s, rfl, by omega, X4⟩

/-- the frames of records, as a text -/
def frsT (ss : List ByteArray) : ByteArray := ⟨(frsB ss).toArray⟩
theorem frsT_list (ss : List ByteArray) : (frsT ss).data.toList = frsB ss := by simp [frsT]
theorem frsT_size (ss : List ByteArray) : (frsT ss).size = (frsB ss).length := by rw [← ba_len, frsT_list]
theorem frsT_snoc (ss : List ByteArray) (s : ByteArray) : frsT (ss ++ [s]) = frsT ss ++ frT s := by
  apply ba_ext
  rw [ba_append, frsT_list, frsT_list, frT_list, frsB, List.flatMap_append]
  simp [frsB]
theorem frsB_len_le : ∀ (ss : List ByteArray), (∀ s ∈ ss, s.size ≤ 900) → (frsB ss).length ≤ ss.length * 1805
  | [], _ => Nat.le_refl _
  | s :: ss, h => by
    have h1 := frsB_len_le ss (fun x hx => h x (by simp [hx]))
    have h2 := h s (by simp)
    have h3 := varT_size s.size
    have h4 : (varB s.size).length = (varT s.size).size := by rw [varB, ba_len]
    rw [frsB, List.flatMap_cons, List.length_append, frB_len, List.length_cons]
    have h5 : (List.flatMap frB ss).length = (frsB ss).length := rfl
    omega
/-- where each record ends -/
def ends (L : List ByteArray) (k : Nat) : List Int := (List.range (k + 1)).map fun j : Nat => ((frsB (L.take j)).length : Int)
theorem ends_len (L : List ByteArray) (k : Nat) : (ends L k).length = k + 1 := by simp [ends]
theorem ends_succ (L : List ByteArray) (k : Nat) : ends L (k + 1) = ends L k ++ [((frsB (L.take (k + 1))).length : Int)] := by rw [ends, List.range_succ, List.map_append, ends]; rfl
theorem ends_at (L : List ByteArray) {k j : Nat} (hj : j ≤ k) : (ends L k)[j]? = some ((frsB (L.take j)).length : Int) := by
  rw [ends, List.getElem?_map, List.getElem?_range (by omega)]; rfl
end Go.Proofs.Ytliebkhfddmhjaa
