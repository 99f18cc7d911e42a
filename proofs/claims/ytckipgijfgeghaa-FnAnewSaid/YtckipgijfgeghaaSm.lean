/- Same, Turn in one text. -/
import Derived.Test.YtckipgijfgeghaaSigA
import Derived.Test.YtckipgijfgeghaaOwnP
import Derived.Test.YtckipgijfgeghaaCore
import Derived.Test.YtckipgijfgeghaaFields
import Derived.StillTailTactics
namespace Go.Proofs.Ytckipgijfgeghaa
open Go.RowKit

set_option maxHeartbeats 400000 in
theorem laws_sameTexts (v1 v2 : Value) (xs ys : List ByteArray) (w : World) (h1 : Strs w v1 xs) (h2 : Strs w v2 ys) :
    Calls Try.prog 23 #[v1, v2] w fun e w' => e = .returned (.bool (decide (xs = ys))) ∧ Ext w w' := by
  obtain ⟨-, a1, c1, rfl, hc1, hm1, g1⟩ := h1
  obtain ⟨-, a2, c2, rfl, hc2, hm2, g2⟩ := h2
  unfold maxLen at hm1 hm2
  by_cases hlen : xs.length = ys.length
  · have hlb : ((xs.length : Int) != ys.length) = false := by simp [hlen]
    have HL := Lib.hid hlen
    clear hlen
    go_enter Try.func23, Try.ntmps23
    go_wp2
    go_loopw [5] (fun i wr => ∃ k : Nat, k ≤ xs.length ∧ i = .int .i64 k ∧ xs.take k = ys.take k ∧ Ext w wr) (fun i _ => xs.length - (intOf i).toNat)
    case atStart => exact ⟨0, Nat.zero_le _, rfl, rfl, Ext.refl _⟩
    case round =>
      obtain ⟨k, hk, rfl, htk, hx⟩ := hrel
      have HT := Lib.hid htk
      clear htk
      by_cases hlt : k < xs.length
      · rcases g1 with g1 | ⟨b1, o1, rfl, hb1, g1⟩
        · omega
        rcases g2 with g2 | ⟨b2, o2, rfl, hb2, g2⟩
        · have := HL.out; omega
        have hlt2 : k < ys.length := by have := HL.out; omega
        have e1 : wr.cell? ⟨b1, o1 + k, none⟩ = some (.string xs[k]) := (hx.cell b1 (o1 + k) hb1).trans (g1 k _ (by simp [hlt]))
        have e2 : wr.cell? ⟨b2, o2 + k, none⟩ = some (.string ys[k]) := (hx.cell b2 (o2 + k) hb2).trans (g2 k _ (by simp [hlt2]))
        clear g1 g2
        by_cases hq : xs[k] = ys[k]
        · have hqb : (xs[k].toList == ys[k].toList) = true := by simp [hq]
          have HQ := Lib.hid hq
          clear hq
          go_wp2
          go_quiet (fail)
          go_wp2
          go_roundw
          case rel => exact ⟨k + 1, by omega, by go_num, take_eq_succ hlt hlt2 HT.out HQ.out, (by repeat (first | (with_reducible first | exact Ext.refl _ | assumption | apply Ext.alloc | apply Ext.drew | apply Ext.drewN | refine Ext.setCell ?_ ?_ _ | refine Ext.trans ?_ (by assumption)) | (show _ ≤ _; first | omega | (dsimp only; omega) | (simp; done) | (simp; omega))))⟩
          case measure => simp [intOf]; omega
        · have hqb : (xs[k].toList == ys[k].toList) = false := by rw [toList_beq]; simp [hq]
          have hne : xs ≠ ys := fun h => hq (by subst h; rfl)
          clear hq
          go_wp2
          go_quiet (fail)
          go_wp2
          go_ret
          exact ⟨ret_bool (by simp [hne]), (by repeat (first | (with_reducible first | exact Ext.refl _ | assumption | apply Ext.alloc | apply Ext.drew | apply Ext.drewN | refine Ext.setCell ?_ ?_ _ | refine Ext.trans ?_ (by assumption)) | (show _ ≤ _; first | omega | (dsimp only; omega) | (simp; done) | (simp; omega))))⟩
      · have he : xs = ys := by
          have h1 := HT.out
          rw [List.take_of_length_le (by omega), List.take_of_length_le (by have := HL.out; omega)] at h1
          exact h1
        have HE := Lib.hid he
        clear he
        go_wp2
        go_ret
        exact ⟨ret_bool (by simp [HE.out]), (by repeat (first | (with_reducible first | exact Ext.refl _ | assumption | apply Ext.alloc | apply Ext.drew | apply Ext.drewN | refine Ext.setCell ?_ ?_ _ | refine Ext.trans ?_ (by assumption)) | (show _ ≤ _; first | omega | (dsimp only; omega) | (simp; done) | (simp; omega))))⟩
  · have hne : xs ≠ ys := fun h => hlen (by rw [h])
    go_enter Try.func23, Try.ntmps23
    go_wp2
    go_ret
    exact ⟨ret_bool (by simp [hne]), (by repeat (first | (with_reducible first | exact Ext.refl _ | assumption | apply Ext.alloc | apply Ext.drew | apply Ext.drewN | refine Ext.setCell ?_ ?_ _ | refine Ext.trans ?_ (by assumption)) | (show _ ≤ _; first | omega | (dsimp only; omega) | (simp; done) | (simp; omega))))⟩
end Go.Proofs.Ytckipgijfgeghaa
namespace Go.Proofs.Ytckipgijfgeghaa
open Go.RowKit

theorem xor_ne : ∀ x : Fin 256, ∀ m : Fin 256, m.val ≠ 0 → 0 ≤ bits .xor .u8 (x.val : Int) (m.val : Int) ∧ bits .xor .u8 (x.val : Int) (m.val : Int) ≤ 255 ∧ bits .xor .u8 (x.val : Int) (m.val : Int) ≠ x.val := by
  intro x m hm
  show 0 ≤ IntKind.u8.wrap ((BitVec.ofInt 8 x.val ^^^ BitVec.ofInt 8 m.val).toNat : Int) ∧ IntKind.u8.wrap ((BitVec.ofInt 8 x.val ^^^ BitVec.ofInt 8 m.val).toNat : Int) ≤ 255 ∧ IntKind.u8.wrap ((BitVec.ofInt 8 x.val ^^^ BitVec.ofInt 8 m.val).toNat : Int) ≠ x.val
  have hlt : (BitVec.ofInt 8 x.val ^^^ BitVec.ofInt 8 m.val).toNat < 256 := BitVec.isLt _
  have hw : ∀ k : Nat, k < 256 → IntKind.u8.wrap (k : Int) = k := by
    intro k hk
    have : ∀ k : Fin 256, IntKind.u8.wrap (k.val : Int) = k.val := by decide +kernel
    exact this ⟨k, hk⟩
  rw [hw _ hlt]
  refine ⟨by omega, by omega, fun e => hm ?_⟩
  have e2 : (BitVec.ofInt 8 x.val ^^^ BitVec.ofInt 8 m.val).toNat = x.val := by omega
  have ex : (BitVec.ofInt 8 x.val).toNat = x.val := by
    have := x.isLt
    simp
  have em : (BitVec.ofInt 8 m.val).toNat = m.val := by
    have := m.isLt
    simp
  have e3 : BitVec.ofInt 8 x.val ^^^ BitVec.ofInt 8 m.val = BitVec.ofInt 8 x.val := BitVec.eq_of_toNat_eq (e2.trans ex.symm)
  have e4 : BitVec.ofInt 8 m.val = 0 := by
    have := congrArg (fun z => BitVec.ofInt 8 x.val ^^^ z) e3
    simpa [← BitVec.xor_assoc] using this
  rw [e4] at em
  simpa using em.symm
theorem OwnM.frozenAt {w : World} {base n g cap : Nat} {xs : List Value} (h : OwnM w base (.slice (some ⟨g, 0, none⟩) n cap) n xs) (j : Nat) (hj : j < n) : w.frozen? ⟨g, j, none⟩ = false := by
  obtain ⟨hl, g', cap', cur, lo, hi, hv, hb, hg, hm, hn, hc, hs, ht⟩ := h
  injection hv with h1 h2 h3
  injection h1 with h1
  injection h1 with h1
  subst h1 h3
  rw [World.frozen?]
  dsimp only
  rw [hg]
  rcases hm with rfl | hm
  · simp
  · simp; omega
theorem strOfNums_ne {ys : List Int} {s : ByteArray} {i : Nat} {y : Int} (hi : i < s.size) (hy : ys[i]? = some y) (h0 : 0 ≤ y ∧ y ≤ 255) (hne : y ≠ (s[i].toNat : Nat)) : strOfNums ys ≠ s := by
  intro e
  have h1 : (strOfNums ys).data.toList[i]? = s.data.toList[i]? := by rw [e]
  have h2 : (strOfNums ys).data.toList[i]? = some (UInt8.ofNat y.toNat) := by simp [strOfNums, hy]
  have h3 : s.data.toList[i]? = some s[i] := by
    have hl : i < s.data.toList.length := hi
    rw [List.getElem?_eq_getElem hl]
    rfl
  rw [h2, h3] at h1
  have h4 := congrArg UInt8.toNat (Option.some.inj h1)
  simp at h4
  omega
end Go.Proofs.Ytckipgijfgeghaa
