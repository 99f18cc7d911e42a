/- Strings joined. -/
import Derived.Test.YtagkcgbggeajkaaStrs
namespace Go.Proofs.Ytagkcgbggeajkaa
open Go.RowKit

def joinOn (a : ByteArray) (xs : List ByteArray) (k : Nat) : ByteArray := (xs.take k).foldl (· ++ ·) a
/-- strings behind a text -/
def joinT (xs : List ByteArray) : ByteArray := joinOn ⟨#[]⟩ xs xs.length
theorem joinOn_zero (a : ByteArray) (xs : List ByteArray) : joinOn a xs 0 = a := by simp [joinOn]
theorem joinOn_succ (a : ByteArray) (xs : List ByteArray) (k : Nat) (h : k < xs.length) : joinOn a xs (k + 1) = joinOn a xs k ++ xs[k] := by
  unfold joinOn
  rw [List.take_succ_eq_append_getElem h, List.foldl_append]
  rfl
theorem ba_empty_size : (⟨#[]⟩ : ByteArray).size = 0 := rfl
theorem ba_empty_append (a : ByteArray) : (⟨#[]⟩ : ByteArray) ++ a = a := by apply ByteArray.ext; simp [ByteArray.data_append]
theorem ba_append_empty (a : ByteArray) : a ++ (⟨#[]⟩ : ByteArray) = a := by apply ByteArray.ext; simp [ByteArray.data_append]
theorem joinOn_eq (a : ByteArray) (xs : List ByteArray) : ∀ k, k ≤ xs.length → joinOn a xs k = a ++ joinOn ⟨#[]⟩ xs k
  | 0, _ => by rw [joinOn_zero, joinOn_zero, ba_append_empty]
  | k + 1, h => by rw [joinOn_succ a xs k (by omega), joinOn_succ _ xs k (by omega), joinOn_eq a xs k (by omega), ByteArray.append_assoc]
theorem joinOn_all (a : ByteArray) (xs : List ByteArray) : joinOn a xs xs.length = a ++ joinT xs := joinOn_eq a xs _ (Nat.le_refl _)
/-- short strings, not many -/
def StrSmall (xs : List ByteArray) : Prop := xs.length ≤ 1000 ∧ ∀ s ∈ xs, s.size ≤ 200
theorem joinOn_size (a : ByteArray) {xs : List ByteArray} (hs : StrSmall xs) : ∀ k, k ≤ xs.length → (joinOn a xs k).size ≤ a.size + 200 * k
  | 0, _ => by simp [joinOn]
  | k + 1, h => by
    have h1 := joinOn_size a hs k (by omega)
    have h2 := hs.2 xs[k] (List.getElem_mem (by omega))
    rw [joinOn_succ a xs k (by omega), ByteArray.size_append]
    omega

set_option maxHeartbeats 400000 in
theorem impl_joined (v : Value) (xs : List ByteArray) (w : World) (h : Strs w v xs) (hs : StrSmall xs) :
    Calls Try.prog 45 #[v] w fun e w' => e = .returned (.string (joinT xs)) ∧ w = w' := by
  obtain ⟨-, a1, c1, rfl, hc1, hm1, g1⟩ := h
  unfold maxLen at hm1
  have hl := hs.1
  have HS := Lib.hid hs
  clear hs
  go_enter Try.func45, Try.ntmps45
  go_wp2
  go_loop [3, 5, 8] (fun s _ i => ∃ k : Nat, k ≤ xs.length ∧ i = .int .i64 k ∧ s = .string (joinOn ⟨#[]⟩ xs k)) (fun _ _ i => xs.length - (intOf i).toNat)
  case atStart => exact ⟨0, Nat.zero_le _, rfl, by rw [joinOn_zero]⟩
  case round =>
    obtain ⟨k, hk, rfl, rfl⟩ := hrel
    by_cases hlt : k < xs.length
    · rcases g1 with g1 | ⟨b1, o1, rfl, hb1, g1⟩
      · omega
      have e1 : w.cell? ⟨b1, o1 + k, none⟩ = some (.string xs[k]) := g1 k _ (by simp [hlt])
      have hsk := HS.out.2 xs[k] (List.getElem_mem hlt)
      have hz := joinOn_size ⟨#[]⟩ HS.out k hk
      have hz' : (joinOn ⟨#[]⟩ xs k).size ≤ 200 * k := by rw [ba_empty_size] at hz; omega
      have HU := Lib.hid (joinOn_succ ⟨#[]⟩ xs k hlt)
      clear g1 hz
      go_wp2
      go_round
      case rel => exact ⟨k + 1, by omega, by go_num, by rw [HU.out]⟩
      case measure => simp [intOf]; omega
    · have hkn : k = xs.length := by omega
      subst hkn
      clear g1
      go_wp2
      go_ret
      exact ⟨rfl, rfl⟩
end Go.Proofs.Ytagkcgbggeajkaa
