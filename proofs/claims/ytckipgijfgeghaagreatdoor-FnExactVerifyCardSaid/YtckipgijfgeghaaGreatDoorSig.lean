/- Signatures: sizes, copies, equality, form. -/
import Derived.Test.YtckipgijfgeghaaGreatDoorStrA
import Derived.Test.YtckipgijfgeghaaGreatDoorCore
namespace Go.Proofs.YtckipgijfgeghaaGreatDoor
open Go.RowKit

/-- a signature -/
structure SigV where
  at_ : Int
  op : List ByteArray
  sh : List ByteArray
  si : List ByteArray
def SigFit (s : SigV) : Prop := (∀ x ∈ s.op, x.size ≤ maxLen) ∧ (∀ x ∈ s.sh, x.size ≤ maxLen) ∧ ∀ x ∈ s.si, x.size ≤ maxLen
def sigWell (s : SigV) : Bool := inB s.at_ 0 15 && ((wide s.op 16 && decide ((s.op.length : Int) = 8)) && ((wide s.sh 16 && decide ((s.sh.length : Int) = 8)) && (wide s.si 16 && decide ((s.si.length : Int) = 4))))

set_option maxHeartbeats 800000 in
theorem spec_l05Wide (v : Value) (xs : List ByteArray) (n : Int) (w : World) (h : Strs w v xs) (hs : ∀ s ∈ xs, s.size ≤ maxLen) :
    Calls Tryz.prog 146 #[v, .int .i64 n] w fun e w' => e = .returned (.bool (wide xs 16 && decide ((xs.length : Int) = n))) ∧ w = w' := by
  obtain ⟨-, a1, c1, rfl, hc1, hm1, g1⟩ := h
  unfold maxLen at hm1 hs
  go_enter Tryz.func146, Tryz.ntmps146
  go_wp2
  go_loop [5] (fun i => ∃ k : Nat, k ≤ xs.length ∧ i = .int .i64 k ∧ ∀ s ∈ xs.take k, (s.size : Int) = 16) (fun i => xs.length - (intOf i).toNat)
  case atStart => exact ⟨0, Nat.zero_le _, rfl, by simp⟩
  case round =>
    obtain ⟨k, hk, rfl, hall⟩ := hrel
    have HA := Lib.hid hall
    clear hall
    by_cases hlt : k < xs.length
    · rcases g1 with g1 | ⟨b1, o1, rfl, hb1, g1⟩
      · omega
      have e1 : w.cell? ⟨b1, o1 + k, none⟩ = some (.string xs[k]) := g1 k _ (by simp [hlt])
      have hsk := hs xs[k] (List.getElem_mem hlt)
      clear g1 hs
      by_cases hq : (xs[k].size : Int) = 16
      · have hqb : ((xs[k].size : Int) != 16) = false := by simp [hq]
        have HQ := Lib.hid hq
        clear hq
        go_wp2
        go_round
        case rel => exact ⟨k + 1, by omega, by go_num, wide_take hlt HA.out HQ.out⟩
        case measure => simp [intOf]; omega
      · have hqb : ((xs[k].size : Int) != 16) = true := by simp [hq]
        have hne : wide xs 16 = false := by
          rw [wide, List.all_eq_false]
          exact ⟨xs[k], List.getElem_mem hlt, by simpa using hq⟩
        have HN := Lib.hid hne
        clear hq hne
        go_wp2
        go_ret
        exact ⟨ret_bool (by rw [HN.out]; rfl), rfl⟩
    · have he : wide xs 16 = true := by
        have h1 := HA.out
        rw [List.take_of_length_le (by omega)] at h1
        rw [wide, List.all_eq_true]
        intro s hs'
        exact decide_eq_true (h1 s hs')
      have HE := Lib.hid he
      clear g1 hs he
      go_wp2
      go_ret
      exact ⟨ret_bool (by rw [HE.out, Bool.true_and, Bool.eq_iff_iff]; simp), rfl⟩

set_option maxHeartbeats 800000 in
theorem impl_formed (v1 v2 v3 : Value) (s : SigV) (w : World) (h1 : Strs w v1 s.op) (h2 : Strs w v2 s.sh) (h3 : Strs w v3 s.si) (hs : SigFit s) :
    Calls Tryz.prog 149 #[.agg #[.int .i64 s.at_, v1, v2, v3]] w fun e w' => e = .returned (.bool (sigWell s)) ∧ Ext w w' := by
  obtain ⟨a1, c1, rfl⟩ := h1.form
  obtain ⟨a2, c2, rfl⟩ := h2.form
  obtain ⟨a3, c3, rfl⟩ := h3.form
  obtain ⟨f1, f2, f3⟩ := hs
  go_enter Tryz.func149, Tryz.ntmps149
  go_wp2_with (first | (go_at_call 39; refine (impl_in _ _ _ _).mono ?_; rintro e w' ⟨rfl, rfl⟩) | (go_at_call_of 75 (Value.slice a1 s.op.length c1); refine (impl_haveWidth _ s.op _ _ _ (h1.ext (by repeat (first | (with_reducible first | exact Ext.refl _ | assumption | apply Ext.alloc | apply Ext.drew | apply Ext.drewN | refine Ext.setCell ?_ ?_ _ | refine Ext.trans ?_ (by assumption)) | (show _ ≤ _; first | omega | (dsimp only; omega) | (simp; done) | (simp; omega))))) f1).mono ?_; rintro e w' ⟨rfl, rfl⟩) | (go_at_call_of 75 (Value.slice a2 s.sh.length c2); refine (impl_haveWidth _ s.sh _ _ _ (h2.ext (by repeat (first | (with_reducible first | exact Ext.refl _ | assumption | apply Ext.alloc | apply Ext.drew | apply Ext.drewN | refine Ext.setCell ?_ ?_ _ | refine Ext.trans ?_ (by assumption)) | (show _ ≤ _; first | omega | (dsimp only; omega) | (simp; done) | (simp; omega))))) f2).mono ?_; rintro e w' ⟨rfl, rfl⟩) | (go_at_call_of 75 (Value.slice a3 s.si.length c3); refine (impl_haveWidth _ s.si _ _ _ (h3.ext (by repeat (first | (with_reducible first | exact Ext.refl _ | assumption | apply Ext.alloc | apply Ext.drew | apply Ext.drewN | refine Ext.setCell ?_ ?_ _ | refine Ext.trans ?_ (by assumption)) | (show _ ≤ _; first | omega | (dsimp only; omega) | (simp; done) | (simp; omega))))) f3).mono ?_; rintro e w' ⟨rfl, rfl⟩))
  all_goals go_ret
  all_goals refine ⟨ret_bool ?_, (by repeat (first | (with_reducible first | exact Ext.refl _ | assumption | apply Ext.alloc | apply Ext.drew | apply Ext.drewN | refine Ext.setCell ?_ ?_ _ | refine Ext.trans ?_ (by assumption)) | (show _ ≤ _; first | omega | (dsimp only; omega) | (simp; done) | (simp; omega))))⟩
  all_goals simp_all [sigWell]

set_option maxHeartbeats 800000 in
theorem spec_l05Form (v1 v2 v3 : Value) (s : SigV) (w : World) (h1 : Strs w v1 s.op) (h2 : Strs w v2 s.sh) (h3 : Strs w v3 s.si) (hs : SigFit s) :
    Calls Tryz.prog 110 #[.agg #[.int .i64 s.at_, v1, v2, v3]] w fun e w' => e = .returned (.bool (sigWell s)) ∧ Ext w w' := by
  obtain ⟨a1, c1, rfl⟩ := h1.form
  obtain ⟨a2, c2, rfl⟩ := h2.form
  obtain ⟨a3, c3, rfl⟩ := h3.form
  obtain ⟨f1, f2, f3⟩ := hs
  go_enter Tryz.func110, Tryz.ntmps110
  go_wp2_with (first | (go_at_call 27; refine (spec_l01In _ _ _ _).mono ?_; rintro e w' ⟨rfl, rfl⟩) | (go_at_call_of 146 (Value.slice a1 s.op.length c1); refine (spec_l05Wide _ s.op _ _ (h1.ext (by repeat (first | (with_reducible first | exact Ext.refl _ | assumption | apply Ext.alloc | apply Ext.drew | apply Ext.drewN | refine Ext.setCell ?_ ?_ _ | refine Ext.trans ?_ (by assumption)) | (show _ ≤ _; first | omega | (dsimp only; omega) | (simp; done) | (simp; omega))))) f1).mono ?_; rintro e w' ⟨rfl, rfl⟩) | (go_at_call_of 146 (Value.slice a2 s.sh.length c2); refine (spec_l05Wide _ s.sh _ _ (h2.ext (by repeat (first | (with_reducible first | exact Ext.refl _ | assumption | apply Ext.alloc | apply Ext.drew | apply Ext.drewN | refine Ext.setCell ?_ ?_ _ | refine Ext.trans ?_ (by assumption)) | (show _ ≤ _; first | omega | (dsimp only; omega) | (simp; done) | (simp; omega))))) f2).mono ?_; rintro e w' ⟨rfl, rfl⟩) | (go_at_call_of 146 (Value.slice a3 s.si.length c3); refine (spec_l05Wide _ s.si _ _ (h3.ext (by repeat (first | (with_reducible first | exact Ext.refl _ | assumption | apply Ext.alloc | apply Ext.drew | apply Ext.drewN | refine Ext.setCell ?_ ?_ _ | refine Ext.trans ?_ (by assumption)) | (show _ ≤ _; first | omega | (dsimp only; omega) | (simp; done) | (simp; omega))))) f3).mono ?_; rintro e w' ⟨rfl, rfl⟩))
  all_goals go_ret
  all_goals refine ⟨ret_bool ?_, (by repeat (first | (with_reducible first | exact Ext.refl _ | assumption | apply Ext.alloc | apply Ext.drew | apply Ext.drewN | refine Ext.setCell ?_ ?_ _ | refine Ext.trans ?_ (by assumption)) | (show _ ≤ _; first | omega | (dsimp only; omega) | (simp; done) | (simp; omega))))⟩
  all_goals simp_all [sigWell]
end Go.Proofs.YtckipgijfgeghaaGreatDoor
