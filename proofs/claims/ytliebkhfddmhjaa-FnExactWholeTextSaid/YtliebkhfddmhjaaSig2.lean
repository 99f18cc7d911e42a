/- Signatures: their text. -/
import Derived.Test.YtliebkhfddmhjaaSig
import Derived.Test.YtliebkhfddmhjaaCore
import Derived.Deep.RegionHeld3
import Derived.Deep.RegionHeld
namespace Go.Proofs.Ytliebkhfddmhjaa
open Go.RowKit

def sigT (s : SigV) : ByteArray := strOfNums [s.at_] ++ joinT s.op ++ joinT s.sh ++ joinT s.si
def sigTx (s : SigV) : ByteArray := if sigWell s = true then sigT s else ⟨#[]⟩
theorem wide_16 {xs : List ByteArray} (h1 : xs.length ≤ 1000) (h : wide xs 16 = true) : StrSmall xs := by
  refine ⟨h1, fun s hs => ?_⟩
  rw [wide, List.all_eq_true] at h
  have := of_decide_eq_true (h s hs)
  omega
theorem sigWell_true {s : SigV} (h : sigWell s = true) : (0 ≤ s.at_ ∧ s.at_ ≤ 15) ∧ (s.op.length = 8 ∧ StrSmall s.op) ∧ (s.sh.length = 8 ∧ StrSmall s.sh) ∧ (s.si.length = 4 ∧ StrSmall s.si) := by
  simp only [sigWell, Bool.and_eq_true, decide_eq_true_eq, inB_true] at h
  obtain ⟨h0, ⟨a1, a2⟩, ⟨b1, b2⟩, c1, c2⟩ := h
  exact ⟨h0, ⟨by omega, wide_16 (by omega) a1⟩, ⟨by omega, wide_16 (by omega) b1⟩, by omega, wide_16 (by omega) c1⟩
theorem joinT_size {xs : List ByteArray} (hs : StrSmall xs) : (joinT xs).size ≤ 200000 := by
  have h1 := joinOn_size ⟨#[]⟩ hs xs.length (Nat.le_refl _)
  have h2 := hs.1
  rw [ba_empty_size] at h1
  unfold joinT
  omega

theorem conv_one (x : Int) (W : World) (B : Nat) (h : W.cell? ⟨B, 0, none⟩ = some (.int .u8 x)) :
    (convert 34 9 (.slice (some ⟨B, 0, none⟩) 1 1)).run Try.prog W = .ok (.string (strOfNums [x])) W := by
  refine run_convert_bytes_arg W 34 5 Try.underlying34 Try.underlying5 B 0 1 1 [x] rfl (fun i hi => ?_) _ Try.underlying9
  obtain rfl : i = 0 := by omega
  simpa using h
set_option maxRecDepth 20000 in
set_option maxHeartbeats 1600000 in
theorem impl_SigText (v1 v2 v3 : Value) (s : SigV) (w : World) (h1 : Strs w v1 s.op) (h2 : Strs w v2 s.sh) (h3 : Strs w v3 s.si) (hs : SigFit s) :
    Calls Try.prog 61 #[.agg #[.int .i64 s.at_, v1, v2, v3]] w fun e w' => e = .returned (.tuple #[.string (sigTx s), .bool (sigWell s)]) ∧ Ext w w' := by
  obtain ⟨a1, c1, rfl⟩ := h1.form
  obtain ⟨a2, c2, rfl⟩ := h2.form
  obtain ⟨a3, c3, rfl⟩ := h3.form
  by_cases hw : sigWell s = true
  · obtain ⟨⟨g1, g2⟩, ⟨n1, m1⟩, ⟨n2, m2⟩, n3, m3⟩ := sigWell_true hw
    have R := Lib.hid (show sigTx s = sigT s by simp [sigTx, hw])
    have HW := Lib.hid hw
    have z0 : (strOfNums [s.at_]).size = 1 := strOfNums_size _
    have z1 := joinT_size m1
    have z2 := joinT_size m2
    have z3 := joinT_size m3
    have q1 : ¬ (9223372036854775807 < 1 + (joinT s.op).size) := by omega
    have q2 : ¬ (9223372036854775807 < 1 + (joinT s.op).size + (joinT s.sh).size) := by omega
    have q3 : ¬ (9223372036854775807 < 1 + (joinT s.op).size + (joinT s.sh).size + (joinT s.si).size) := by omega
    have hcv := conv_one s.at_
    have e1 : s.at_ % 256 = s.at_ := by omega
    have ewr : IntKind.u8.wrap s.at_ = s.at_ := by simp [IntKind.wrap, IntKind.signed, IntKind.bits]; omega
    clear hw z1 z2 z3 n1 n2 n3
    go_enter Try.func61, Try.ntmps61
    go_wp2_with (go_at_call 73; refine (impl_formed _ _ _ s _ (h1.ext (by repeat (first | (with_reducible first | exact Ext.refl _ | assumption | apply Ext.alloc | apply Ext.drew | apply Ext.drewN | refine Ext.setCell ?_ ?_ _ | refine Ext.trans ?_ (by assumption)) | (show _ ≤ _; first | omega | (dsimp only; omega) | (simp; done) | (simp; omega))))) (h2.ext (by repeat (first | (with_reducible first | exact Ext.refl _ | assumption | apply Ext.alloc | apply Ext.drew | apply Ext.drewN | refine Ext.setCell ?_ ?_ _ | refine Ext.trans ?_ (by assumption)) | (show _ ≤ _; first | omega | (dsimp only; omega) | (simp; done) | (simp; omega))))) (h3.ext (by repeat (first | (with_reducible first | exact Ext.refl _ | assumption | apply Ext.alloc | apply Ext.drew | apply Ext.drewN | refine Ext.setCell ?_ ?_ _ | refine Ext.trans ?_ (by assumption)) | (show _ ≤ _; first | omega | (dsimp only; omega) | (simp; done) | (simp; omega))))) hs).mono ?_; rw [HW.out]; rintro e w1 ⟨rfl, x1⟩; have E_x1 := Old.of x1; (repeat (first | (replace E_x1 := Old.undrew E_x1) | (replace E_x1 := Old.undrewN E_x1))); have c_E_x1 := Old.cell E_x1; have f_E_x1 := Old.frozen E_x1; have z_E_x1 := Old.size E_x1; try simp only [World.size_alloc] at c_E_x1 f_E_x1 z_E_x1; try have l_E_x1 := Nat.lt_of_succ_le z_E_x1; try have m_E_x1 := Nat.lt_of_succ_lt l_E_x1; try have n_E_x1 := Nat.lt_of_succ_lt m_E_x1)
    have p0 := c_E_x1 (w.heap.size) 0 (by omega); simp [go_sem] at p0; have p1 := c_E_x1 (w.heap.size) 1 (by omega); simp [go_sem] at p1; have p2 := c_E_x1 (w.heap.size) 2 (by omega); simp [go_sem] at p2; have p3 := c_E_x1 (w.heap.size) 3 (by omega); simp [go_sem] at p3
    clear c_E_x1 f_E_x1
    go_region_held (fun W => W.cell? ⟨w.heap.size, 0, none⟩ = some (.int .i64 s.at_) ∧ W.cell? ⟨w.heap.size, 1, none⟩ = some (.slice a1 s.op.length c1) ∧ W.cell? ⟨w.heap.size, 2, none⟩ = some (.slice a2 s.sh.length c2) ∧ W.cell? ⟨w.heap.size, 3, none⟩ = some (.slice a3 s.si.length c3)) (first | exact ⟨p0, p1, p2, p3⟩ | exact ⟨(Ext.cell (show Ext w1 _ from (by repeat (first | (with_reducible first | exact Ext.refl _ | assumption | apply Ext.alloc | apply Ext.drew | apply Ext.drewN | refine Ext.setCell ?_ ?_ _ | refine Ext.trans ?_ (by assumption)) | (show _ ≤ _; first | omega | (dsimp only; omega) | (simp; done) | (simp; omega))))) _ _ l_E_x1).trans p0, (Ext.cell (show Ext w1 _ from (by repeat (first | (with_reducible first | exact Ext.refl _ | assumption | apply Ext.alloc | apply Ext.drew | apply Ext.drewN | refine Ext.setCell ?_ ?_ _ | refine Ext.trans ?_ (by assumption)) | (show _ ≤ _; first | omega | (dsimp only; omega) | (simp; done) | (simp; omega))))) _ _ l_E_x1).trans p1, (Ext.cell (show Ext w1 _ from (by repeat (first | (with_reducible first | exact Ext.refl _ | assumption | apply Ext.alloc | apply Ext.drew | apply Ext.drewN | refine Ext.setCell ?_ ?_ _ | refine Ext.trans ?_ (by assumption)) | (show _ ≤ _; first | omega | (dsimp only; omega) | (simp; done) | (simp; omega))))) _ _ l_E_x1).trans p2, (Ext.cell (show Ext w1 _ from (by repeat (first | (with_reducible first | exact Ext.refl _ | assumption | apply Ext.alloc | apply Ext.drew | apply Ext.drewN | refine Ext.setCell ?_ ?_ _ | refine Ext.trans ?_ (by assumption)) | (show _ ≤ _; first | omega | (dsimp only; omega) | (simp; done) | (simp; omega))))) _ _ l_E_x1).trans p3⟩) (first | (go_at_call_of 60 (Value.slice a1 s.op.length c1); refine (impl_joined _ s.op _ (h1.ext (by repeat (first | (with_reducible first | exact Ext.refl _ | assumption | apply Ext.alloc | apply Ext.drew | apply Ext.drewN | refine Ext.setCell ?_ ?_ _ | refine Ext.trans ?_ (by assumption)) | (show _ ≤ _; first | omega | (dsimp only; omega) | (simp; done) | (simp; omega))))) m1).mono ?_; rintro e w' ⟨rfl, rfl⟩) | (go_at_call_of 60 (Value.slice a2 s.sh.length c2); refine (impl_joined _ s.sh _ (h2.ext (by repeat (first | (with_reducible first | exact Ext.refl _ | assumption | apply Ext.alloc | apply Ext.drew | apply Ext.drewN | refine Ext.setCell ?_ ?_ _ | refine Ext.trans ?_ (by assumption)) | (show _ ≤ _; first | omega | (dsimp only; omega) | (simp; done) | (simp; omega))))) m2).mono ?_; rintro e w' ⟨rfl, rfl⟩) | (go_at_call_of 60 (Value.slice a3 s.si.length c3); refine (impl_joined _ s.si _ (h3.ext (by repeat (first | (with_reducible first | exact Ext.refl _ | assumption | apply Ext.alloc | apply Ext.drew | apply Ext.drewN | refine Ext.setCell ?_ ?_ _ | refine Ext.trans ?_ (by assumption)) | (show _ ≤ _; first | omega | (dsimp only; omega) | (simp; done) | (simp; omega))))) m3).mono ?_; rintro e w' ⟨rfl, rfl⟩))
    all_goals
      go_wp2
      go_ret2
      exact ⟨ret_sb R.out.symm HW.out.symm, (by repeat (first | (with_reducible first | exact Ext.refl _ | assumption | apply Ext.alloc | apply Ext.drew | apply Ext.drewN | refine Ext.setCell ?_ ?_ _ | refine Ext.trans ?_ (by assumption)) | (show _ ≤ _; first | omega | (dsimp only; omega) | (simp; done) | (simp; omega))))⟩
  · have hw' : sigWell s = false := by simpa using hw
    have R := Lib.hid (show sigTx s = ⟨#[]⟩ by simp [sigTx, hw'])
    have HW := Lib.hid hw'
    clear hw hw'
    go_enter Try.func61, Try.ntmps61
    go_wp2_with (go_at_call 73; refine (impl_formed _ _ _ s _ (h1.ext (by repeat (first | (with_reducible first | exact Ext.refl _ | assumption | apply Ext.alloc | apply Ext.drew | apply Ext.drewN | refine Ext.setCell ?_ ?_ _ | refine Ext.trans ?_ (by assumption)) | (show _ ≤ _; first | omega | (dsimp only; omega) | (simp; done) | (simp; omega))))) (h2.ext (by repeat (first | (with_reducible first | exact Ext.refl _ | assumption | apply Ext.alloc | apply Ext.drew | apply Ext.drewN | refine Ext.setCell ?_ ?_ _ | refine Ext.trans ?_ (by assumption)) | (show _ ≤ _; first | omega | (dsimp only; omega) | (simp; done) | (simp; omega))))) (h3.ext (by repeat (first | (with_reducible first | exact Ext.refl _ | assumption | apply Ext.alloc | apply Ext.drew | apply Ext.drewN | refine Ext.setCell ?_ ?_ _ | refine Ext.trans ?_ (by assumption)) | (show _ ≤ _; first | omega | (dsimp only; omega) | (simp; done) | (simp; omega))))) hs).mono ?_; rw [HW.out]; rintro e w1 ⟨rfl, x1⟩)
    go_ret2
    exact ⟨ret_sb R.out.symm HW.out.symm, (by repeat (first | (with_reducible first | exact Ext.refl _ | assumption | apply Ext.alloc | apply Ext.drew | apply Ext.drewN | refine Ext.setCell ?_ ?_ _ | refine Ext.trans ?_ (by assumption)) | (show _ ≤ _; first | omega | (dsimp only; omega) | (simp; done) | (simp; omega))))⟩
end Go.Proofs.Ytliebkhfddmhjaa
