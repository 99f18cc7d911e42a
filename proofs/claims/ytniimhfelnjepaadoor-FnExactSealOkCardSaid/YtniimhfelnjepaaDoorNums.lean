/- Texts as lists of numbers. -/
import Derived.Test.YtniimhfelnjepaaDoorBase
import Derived.Lib.AppendStr
namespace Go.Proofs.YtniimhfelnjepaaDoor
open Go.RowKit

def nums8 (t : ByteArray) : List Int := t.data.toList.map fun x => (x.toNat : Int)
theorem nums8_length (t : ByteArray) : (nums8 t).length = t.size := by rw [nums8, List.length_map, Array.length_toList]; rfl
theorem strCells_nums8 (t : ByteArray) : Lib.strCells t = (nums8 t).map (Value.int .u8) := by simp [Lib.strCells, nums8]
theorem strOfNums_nums8 (t : ByteArray) : strOfNums (nums8 t) = t := by
  apply ByteArray.ext
  simp only [strOfNums, nums8, List.map_map]
  have : (List.map ((fun n : Int => UInt8.ofNat n.toNat) ∘ fun x : UInt8 => (x.toNat : Int)) t.data.toList) = t.data.toList := by
    conv => rhs; rw [← List.map_id t.data.toList]
    apply List.map_congr_left
    intro x _
    simp
  rw [this]
theorem strCells_one (k : Int) (h : 0 ≤ k ∧ k < 256) : Lib.strCells (strOfNums [k]) = [.int .u8 k] := by
  have h2 : k.toNat % 256 = k.toNat := Nat.mod_eq_of_lt (by omega)
  simp [Lib.strCells, strOfNums, h2]
  omega
theorem strCells_append (a b : ByteArray) : Lib.strCells (a ++ b) = Lib.strCells a ++ Lib.strCells b := by simp [Lib.strCells, ByteArray.data_append]
theorem strOfNums_append (a b : List Int) : strOfNums (a ++ b) = strOfNums a ++ strOfNums b := by
  apply ByteArray.ext
  simp [strOfNums, ByteArray.data_append]
end Go.Proofs.YtniimhfelnjepaaDoor
