/- ProofOk; the law. -/
import Derived.Test.YtckipgijfgeghaaGreatDoorLTxA
import Derived.Test.YtckipgijfgeghaaGreatDoorPick
namespace Go.Proofs.YtckipgijfgeghaaGreatDoor
open Go.RowKit

/-- all entries have the name's index -/
def bktAll (n : ByteArray) (xs : List Leaf) : Bool := xs.all (bktP (idxT n))
def proofOk (n : ByteArray) (xs : List Leaf) (ss : List ByteArray) (wd : Int) : Bool := nameOk n && (proofWell xs ss wd && bktAll n xs)
theorem bktL_all (n : ByteArray) (xs : List Leaf) : ((bktL xs (idxT n)).length = xs.length) ↔ bktAll n xs = true := by
  unfold bktL pickOn bktAll
  rw [List.take_length, List.all_eq_true]
  constructor
  · intro h a ha
    have := List.filter_eq_self.1 (List.Sublist.eq_of_length (List.filter_sublist) h)
    exact this a ha
  · intro h
    rw [List.filter_eq_self.2 h]
theorem leaves_names {xs : List Leaf} (h : leavesOk xs = true) : NamesFit xs := fun l hl => by
  have := (leavesOk_small h).2 l hl
  omega
theorem nameOk_size {n : ByteArray} (h : nameOk n = true) : n.size ≤ 12 := by
  unfold nameOk at h
  rw [Bool.and_eq_true, inB_true] at h
  omega
theorem bkt_step {p : Leaf → Bool} {xs : List Leaf} {k : Nat} (h : k < xs.length) (e : (xs.take k).all p = true) (f : p xs[k] = true) : (xs.take (k + 1)).all p = true := by
  rw [List.take_succ_eq_append_getElem h, List.all_append, e]
  simp [f]
theorem ok_bad1 {n xs ss wd} (h : nameOk n = false) : proofOk n xs ss wd = false := by rw [proofOk, h]; rfl
theorem ok_bad2 {n xs ss wd} (h : proofWell xs ss wd = false) : proofOk n xs ss wd = false := by rw [proofOk, h]; simp
theorem ok_last {n xs ss wd} (h1 : nameOk n = true) (h : proofWell xs ss wd = true) : proofOk n xs ss wd = bktAll n xs := by rw [proofOk, h, h1]; rfl

set_option maxHeartbeats 1600000 in
theorem impl_ProofOk (n : ByteArray) (v u : Value) (xs : List Leaf) (ss : List ByteArray) (wd : Int) (w : World) (hn : n.size ≤ maxLen) (h : Lvs w v xs) (hf : LeafFit xs) (hu : Strs w u ss) (hs : ∀ s ∈ ss, s.size ≤ maxLen) (hT : Tabs w) :
    Calls Tryz.prog 74 #[.string n, .agg #[v, u], .int .i64 wd] w fun e w' => e = .returned (.bool (proofOk n xs ss wd)) ∧ Ext w w' := by
  have HT := Lib.hid hT
  clear hT
  obtain ⟨a, c, rfl⟩ := h.form
  obtain ⟨b, d, rfl⟩ := hu.form
  cases hn1 : nameOk n
  · have R := Lib.hid (ok_bad1 (xs := xs) (ss := ss) (wd := wd) hn1)
    have HN := Lib.hid hn1
    clear hn1
    go_enter Tryz.func74, Tryz.ntmps74
    go_wp2_with (go_at_call 118; refine (impl_NameOk n _ hn).mono ?_; rw [HN.out]; rintro e w' ⟨rfl, rfl⟩)
    go_ret
    exact ⟨ret_bool R.out.symm, (by repeat (first | (with_reducible first | exact Ext.refl _ | assumption | apply Ext.alloc | apply Ext.drew | apply Ext.drewN | refine Ext.setCell ?_ ?_ _ | refine Ext.trans ?_ (by assumption)) | (show _ ≤ _; first | omega | (dsimp only; omega) | (simp; done) | (simp; omega))))⟩
  rcases proofWell_cases xs ss wd with ⟨hp, h1⟩ | ⟨hp, h1, h2⟩ | ⟨hp, h1, h2, h3⟩ | ⟨hp, h1, h2, h3, h4⟩ | ⟨hp, h1, h2, h3, h4⟩
  case inl =>
    have R := Lib.hid (ok_bad2 (n := n) hp)
    have HN := Lib.hid hn1
    have H1 := Lib.hid h1
    clear hp h1 hn1
    go_enter Tryz.func74, Tryz.ntmps74
    go_wp2_with (go_at_call 118; refine (impl_NameOk n _ hn).mono ?_; rw [HN.out]; rintro e w' ⟨rfl, rfl⟩)
    refine (impl_LeavesOk _ xs _ (h.ext (by repeat (first | (with_reducible first | exact Ext.refl _ | assumption | apply Ext.alloc | apply Ext.drew | apply Ext.drewN | refine Ext.setCell ?_ ?_ _ | refine Ext.trans ?_ (by assumption)) | (show _ ≤ _; first | omega | (dsimp only; omega) | (simp; done) | (simp; omega))))) hf).mono ?_
    rw [H1.out]
    rintro e w1 ⟨rfl, x1⟩
    have E_x1 := Old.of x1; (repeat (first | (replace E_x1 := Old.undrew E_x1) | (replace E_x1 := Old.undrewN E_x1))); have c_E_x1 := Old.cell E_x1; have f_E_x1 := Old.frozen E_x1; have z_E_x1 := Old.size E_x1; try simp only [World.size_alloc] at c_E_x1 f_E_x1 z_E_x1; try have l_E_x1 := Nat.lt_of_succ_le z_E_x1; try have m_E_x1 := Nat.lt_of_succ_lt l_E_x1; try have n_E_x1 := Nat.lt_of_succ_lt m_E_x1
    go_wp2
    go_ret
    exact ⟨ret_bool R.out.symm, (by repeat (first | (with_reducible first | exact Ext.refl _ | assumption | apply Ext.alloc | apply Ext.drew | apply Ext.drewN | refine Ext.setCell ?_ ?_ _ | refine Ext.trans ?_ (by assumption)) | (show _ ≤ _; first | omega | (dsimp only; omega) | (simp; done) | (simp; omega))))⟩
  case inr.inl =>
    have R := Lib.hid (ok_bad2 (n := n) hp)
    have HN := Lib.hid hn1
    have H1 := Lib.hid h1
    have h2i : (8 : Int) < ss.length := by omega
    clear hp h1 hn1
    go_enter Tryz.func74, Tryz.ntmps74
    go_wp2_with (go_at_call 118; refine (impl_NameOk n _ hn).mono ?_; rw [HN.out]; rintro e w' ⟨rfl, rfl⟩)
    refine (impl_LeavesOk _ xs _ (h.ext (by repeat (first | (with_reducible first | exact Ext.refl _ | assumption | apply Ext.alloc | apply Ext.drew | apply Ext.drewN | refine Ext.setCell ?_ ?_ _ | refine Ext.trans ?_ (by assumption)) | (show _ ≤ _; first | omega | (dsimp only; omega) | (simp; done) | (simp; omega))))) hf).mono ?_
    rw [H1.out]
    rintro e w1 ⟨rfl, x1⟩
    have E_x1 := Old.of x1; (repeat (first | (replace E_x1 := Old.undrew E_x1) | (replace E_x1 := Old.undrewN E_x1))); have c_E_x1 := Old.cell E_x1; have f_E_x1 := Old.frozen E_x1; have z_E_x1 := Old.size E_x1; try simp only [World.size_alloc] at c_E_x1 f_E_x1 z_E_x1; try have l_E_x1 := Nat.lt_of_succ_le z_E_x1; try have m_E_x1 := Nat.lt_of_succ_lt l_E_x1; try have n_E_x1 := Nat.lt_of_succ_lt m_E_x1
    go_wp2
    go_ret
    exact ⟨ret_bool R.out.symm, (by repeat (first | (with_reducible first | exact Ext.refl _ | assumption | apply Ext.alloc | apply Ext.drew | apply Ext.drewN | refine Ext.setCell ?_ ?_ _ | refine Ext.trans ?_ (by assumption)) | (show _ ≤ _; first | omega | (dsimp only; omega) | (simp; done) | (simp; omega))))⟩
  case inr.inr.inl =>
    have R := Lib.hid (ok_bad2 (n := n) hp)
    have HN := Lib.hid hn1
    have H1 := Lib.hid h1
    have H3 := Lib.hid h3
    have h2i : ¬ ((8 : Int) < ss.length) := by omega
    clear hp h1 h3 hn1
    go_enter Tryz.func74, Tryz.ntmps74
    go_wp2_with (go_at_call 118; refine (impl_NameOk n _ hn).mono ?_; rw [HN.out]; rintro e w' ⟨rfl, rfl⟩)
    refine (impl_LeavesOk _ xs _ (h.ext (by repeat (first | (with_reducible first | exact Ext.refl _ | assumption | apply Ext.alloc | apply Ext.drew | apply Ext.drewN | refine Ext.setCell ?_ ?_ _ | refine Ext.trans ?_ (by assumption)) | (show _ ≤ _; first | omega | (dsimp only; omega) | (simp; done) | (simp; omega))))) hf).mono ?_
    rw [H1.out]
    rintro e w1 ⟨rfl, x1⟩
    have E_x1 := Old.of x1; (repeat (first | (replace E_x1 := Old.undrew E_x1) | (replace E_x1 := Old.undrewN E_x1))); have c_E_x1 := Old.cell E_x1; have f_E_x1 := Old.frozen E_x1; have z_E_x1 := Old.size E_x1; try simp only [World.size_alloc] at c_E_x1 f_E_x1 z_E_x1; try have l_E_x1 := Nat.lt_of_succ_le z_E_x1; try have m_E_x1 := Nat.lt_of_succ_lt l_E_x1; try have n_E_x1 := Nat.lt_of_succ_lt m_E_x1
    go_wp2_with (go_at_call 120; refine (impl_isWide wd _).mono ?_; rw [H3.out]; rintro e w' ⟨rfl, rfl⟩)
    go_ret
    exact ⟨ret_bool R.out.symm, (by repeat (first | (with_reducible first | exact Ext.refl _ | assumption | apply Ext.alloc | apply Ext.drew | apply Ext.drewN | refine Ext.setCell ?_ ?_ _ | refine Ext.trans ?_ (by assumption)) | (show _ ≤ _; first | omega | (dsimp only; omega) | (simp; done) | (simp; omega))))⟩
  case inr.inr.inr.inl =>
    have R := Lib.hid (ok_bad2 (n := n) hp)
    have HN := Lib.hid hn1
    have H1 := Lib.hid h1
    have H3 := Lib.hid h3
    have H4 := Lib.hid (show ∀ n : Int, n = ss.length → (wide ss wd && decide ((ss.length : Int) = n)) = false by intro n _; rw [h4]; rfl)
    have h2i : ¬ ((8 : Int) < ss.length) := by omega
    clear hp h1 h3 h4 hn1
    go_enter Tryz.func74, Tryz.ntmps74
    go_wp2_with (go_at_call 118; refine (impl_NameOk n _ hn).mono ?_; rw [HN.out]; rintro e w' ⟨rfl, rfl⟩)
    refine (impl_LeavesOk _ xs _ (h.ext (by repeat (first | (with_reducible first | exact Ext.refl _ | assumption | apply Ext.alloc | apply Ext.drew | apply Ext.drewN | refine Ext.setCell ?_ ?_ _ | refine Ext.trans ?_ (by assumption)) | (show _ ≤ _; first | omega | (dsimp only; omega) | (simp; done) | (simp; omega))))) hf).mono ?_
    rw [H1.out]
    rintro e w1 ⟨rfl, x1⟩
    have E_x1 := Old.of x1; (repeat (first | (replace E_x1 := Old.undrew E_x1) | (replace E_x1 := Old.undrewN E_x1))); have c_E_x1 := Old.cell E_x1; have f_E_x1 := Old.frozen E_x1; have z_E_x1 := Old.size E_x1; try simp only [World.size_alloc] at c_E_x1 f_E_x1 z_E_x1; try have l_E_x1 := Nat.lt_of_succ_le z_E_x1; try have m_E_x1 := Nat.lt_of_succ_lt l_E_x1; try have n_E_x1 := Nat.lt_of_succ_lt m_E_x1
    go_wp2_with (first | (go_at_call 120; refine (impl_isWide wd _).mono ?_; rw [H3.out]; rintro e w' ⟨rfl, rfl⟩) | (go_at_call 75; refine (impl_haveWidth _ ss _ _ _ (hu.ext (by repeat (first | (with_reducible first | exact Ext.refl _ | assumption | apply Ext.alloc | apply Ext.drew | apply Ext.drewN | refine Ext.setCell ?_ ?_ _ | refine Ext.trans ?_ (by assumption)) | (show _ ≤ _; first | omega | (dsimp only; omega) | (simp; done) | (simp; omega))))) hs).mono ?_; rw [H4.out _ rfl]; rintro e w' ⟨rfl, rfl⟩))
    go_ret
    exact ⟨ret_bool R.out.symm, (by repeat (first | (with_reducible first | exact Ext.refl _ | assumption | apply Ext.alloc | apply Ext.drew | apply Ext.drewN | refine Ext.setCell ?_ ?_ _ | refine Ext.trans ?_ (by assumption)) | (show _ ≤ _; first | omega | (dsimp only; omega) | (simp; done) | (simp; omega))))⟩
  case inr.inr.inr.inr =>
    have R := Lib.hid (ok_last hn1 hp)
    have HB := Lib.hid (bktL_all n xs)
    have HN := Lib.hid hn1
    have H1 := Lib.hid h1
    have H3 := Lib.hid h3
    have H4 := Lib.hid (show ∀ n : Int, n = ss.length → (wide ss wd && decide ((ss.length : Int) = n)) = true by intro n hn; rw [h4, hn]; simp)
    have h2i : ¬ ((8 : Int) < ss.length) := by omega
    have hnm := leaves_names h1
    have hlen : xs.length ≤ 1099511627776 := by have := (leavesOk_small h1).1; omega
    have hnsz : n.size ≤ 1073741824 := by have := nameOk_size HN.out; omega
    clear hp h1 h3 h4 hn1
    go_enter Tryz.func74, Tryz.ntmps74
    go_wp2_with (go_at_call 118; refine (impl_NameOk n _ hn).mono ?_; rw [HN.out]; rintro e w' ⟨rfl, rfl⟩)
    refine (impl_LeavesOk _ xs _ (h.ext (by repeat (first | (with_reducible first | exact Ext.refl _ | assumption | apply Ext.alloc | apply Ext.drew | apply Ext.drewN | refine Ext.setCell ?_ ?_ _ | refine Ext.trans ?_ (by assumption)) | (show _ ≤ _; first | omega | (dsimp only; omega) | (simp; done) | (simp; omega))))) hf).mono ?_
    rw [H1.out]
    rintro e w1 ⟨rfl, x1⟩
    have E_x1 := Old.of x1; (repeat (first | (replace E_x1 := Old.undrew E_x1) | (replace E_x1 := Old.undrewN E_x1))); have c_E_x1 := Old.cell E_x1; have f_E_x1 := Old.frozen E_x1; have z_E_x1 := Old.size E_x1; try simp only [World.size_alloc] at c_E_x1 f_E_x1 z_E_x1; try have l_E_x1 := Nat.lt_of_succ_le z_E_x1; try have m_E_x1 := Nat.lt_of_succ_lt l_E_x1; try have n_E_x1 := Nat.lt_of_succ_lt m_E_x1
    go_wp2_with (first | (go_at_call 120; refine (impl_isWide wd _).mono ?_; rw [H3.out]; rintro e w' ⟨rfl, rfl⟩) | (go_at_call 75; refine (impl_haveWidth _ ss _ _ _ (hu.ext (by repeat (first | (with_reducible first | exact Ext.refl _ | assumption | apply Ext.alloc | apply Ext.drew | apply Ext.drewN | refine Ext.setCell ?_ ?_ _ | refine Ext.trans ?_ (by assumption)) | (show _ ≤ _; first | omega | (dsimp only; omega) | (simp; done) | (simp; omega))))) hs).mono ?_; rw [H4.out _ rfl]; rintro e w' ⟨rfl, rfl⟩))
    have q0 := c_E_x1 (w.heap.size) 0 (by omega); simp [go_sem] at q0; have q1 := c_E_x1 (w.heap.size) 1 (by omega); simp [go_sem] at q1
    clear h2i
    go_region_held3 (fun W => W.cell? ⟨w.heap.size, 0, none⟩ = some (.slice a xs.length c) ∧ W.cell? ⟨w.heap.size, 1, none⟩ = some (.slice b ss.length d)) (first | exact ⟨q0, q1⟩ | exact ⟨(ya.cell _ _ l_E_x1).trans q0, (ya.cell _ _ l_E_x1).trans q1⟩ | exact ⟨(yb.cell _ _ l_E_x1).trans q0, (yb.cell _ _ l_E_x1).trans q1⟩) (first | (go_at_call 38; refine (impl_IndexOf n _ hnsz (by exact HT.out.ext (by repeat (first | (with_reducible first | exact Ext.refl _ | assumption | apply Ext.alloc | apply Ext.drew | apply Ext.drewN | refine Ext.setCell ?_ ?_ _ | refine Ext.trans ?_ (by assumption)) | (show _ ≤ _; first | omega | (dsimp only; omega) | (simp; done) | (simp; omega)))))).mono ?_; rintro e wa ⟨rfl, xa⟩; have ya : Ext w1 wa := (by repeat (first | (with_reducible first | exact Ext.refl _ | assumption | apply Ext.alloc | apply Ext.drew | apply Ext.drewN | refine Ext.setCell ?_ ?_ _ | refine Ext.trans ?_ (by assumption)) | (show _ ≤ _; first | omega | (dsimp only; omega) | (simp; done) | (simp; omega))))) | (go_at_call 121; refine (impl_BucketOf _ xs (idxT n) _ (h.ext (by repeat (first | (with_reducible first | exact Ext.refl _ | assumption | apply Ext.alloc | apply Ext.drew | apply Ext.drewN | refine Ext.setCell ?_ ?_ _ | refine Ext.trans ?_ (by assumption)) | (show _ ≤ _; first | omega | (dsimp only; omega) | (simp; done) | (simp; omega))))) hnm hlen (by exact HT.out.ext (by repeat (first | (with_reducible first | exact Ext.refl _ | assumption | apply Ext.alloc | apply Ext.drew | apply Ext.drewN | refine Ext.setCell ?_ ?_ _ | refine Ext.trans ?_ (by assumption)) | (show _ ≤ _; first | omega | (dsimp only; omega) | (simp; done) | (simp; omega)))))).mono ?_; rintro e wb ⟨ab, cb, rfl, -, xb⟩; have yb : Ext w1 wb := (by repeat (first | (with_reducible first | exact Ext.refl _ | assumption | apply Ext.alloc | apply Ext.drew | apply Ext.drewN | refine Ext.setCell ?_ ?_ _ | refine Ext.trans ?_ (by assumption)) | (show _ ≤ _; first | omega | (dsimp only; omega) | (simp; done) | (simp; omega))))))
    all_goals
      go_wp2
      go_ret
      exact ⟨ret_bool (by rw [R.out, Bool.eq_iff_iff, ← HB.out]; simp; try omega), (by repeat (first | (with_reducible first | exact Ext.refl _ | assumption | apply Ext.alloc | apply Ext.drew | apply Ext.drewN | refine Ext.setCell ?_ ?_ _ | refine Ext.trans ?_ (by assumption)) | (show _ ≤ _; first | omega | (dsimp only; omega) | (simp; done) | (simp; omega))))⟩

set_option maxHeartbeats 1600000 in
theorem spec_ProofOk (n : ByteArray) (v u : Value) (xs : List Leaf) (ss : List ByteArray) (wd : Int) (w : World) (hn : n.size ≤ maxLen) (h : Lvs w v xs) (hf : LeafFit xs) (hu : Strs w u ss) (hs : ∀ s ∈ ss, s.size ≤ maxLen) :
    Calls Tryz.prog 57 #[.string n, .agg #[v, u], .int .i64 wd] w fun e w' => e = .returned (.bool (proofOk n xs ss wd)) ∧ Ext w w' := by
  obtain ⟨a, c, rfl⟩ := h.form
  obtain ⟨b, d, rfl⟩ := hu.form
  cases hn1 : nameOk n
  · have R := Lib.hid (ok_bad1 (xs := xs) (ss := ss) (wd := wd) hn1)
    have HN := Lib.hid hn1
    clear hn1
    go_enter Tryz.func57, Tryz.ntmps57
    go_wp2_with (go_at_call 102; refine (spec_NameOk n _ hn).mono ?_; rw [HN.out]; rintro e w' ⟨rfl, rfl⟩)
    go_ret
    exact ⟨ret_bool R.out.symm, (by repeat (first | (with_reducible first | exact Ext.refl _ | assumption | apply Ext.alloc | apply Ext.drew | apply Ext.drewN | refine Ext.setCell ?_ ?_ _ | refine Ext.trans ?_ (by assumption)) | (show _ ≤ _; first | omega | (dsimp only; omega) | (simp; done) | (simp; omega))))⟩
  rcases proofWell_cases xs ss wd with ⟨hp, h1⟩ | ⟨hp, h1, h2⟩ | ⟨hp, h1, h2, h3⟩ | ⟨hp, h1, h2, h3, h4⟩ | ⟨hp, h1, h2, h3, h4⟩
  case inl =>
    have R := Lib.hid (ok_bad2 (n := n) hp)
    have HN := Lib.hid hn1
    have H1 := Lib.hid h1
    clear hp h1 hn1
    go_enter Tryz.func57, Tryz.ntmps57
    go_wp2_with (go_at_call 102; refine (spec_NameOk n _ hn).mono ?_; rw [HN.out]; rintro e w' ⟨rfl, rfl⟩)
    refine (spec_LeavesOk _ xs _ (h.ext (by repeat (first | (with_reducible first | exact Ext.refl _ | assumption | apply Ext.alloc | apply Ext.drew | apply Ext.drewN | refine Ext.setCell ?_ ?_ _ | refine Ext.trans ?_ (by assumption)) | (show _ ≤ _; first | omega | (dsimp only; omega) | (simp; done) | (simp; omega))))) hf).mono ?_
    rw [H1.out]
    rintro e w1 ⟨rfl, x1⟩
    have E_x1 := Old.of x1; (repeat (first | (replace E_x1 := Old.undrew E_x1) | (replace E_x1 := Old.undrewN E_x1))); have c_E_x1 := Old.cell E_x1; have f_E_x1 := Old.frozen E_x1; have z_E_x1 := Old.size E_x1; try simp only [World.size_alloc] at c_E_x1 f_E_x1 z_E_x1; try have l_E_x1 := Nat.lt_of_succ_le z_E_x1; try have m_E_x1 := Nat.lt_of_succ_lt l_E_x1; try have n_E_x1 := Nat.lt_of_succ_lt m_E_x1
    go_wp2
    go_ret
    exact ⟨ret_bool R.out.symm, (by repeat (first | (with_reducible first | exact Ext.refl _ | assumption | apply Ext.alloc | apply Ext.drew | apply Ext.drewN | refine Ext.setCell ?_ ?_ _ | refine Ext.trans ?_ (by assumption)) | (show _ ≤ _; first | omega | (dsimp only; omega) | (simp; done) | (simp; omega))))⟩
  case inr.inl =>
    have R := Lib.hid (ok_bad2 (n := n) hp)
    have HN := Lib.hid hn1
    have H1 := Lib.hid h1
    have h2i : (8 : Int) < ss.length := by omega
    clear hp h1 hn1
    go_enter Tryz.func57, Tryz.ntmps57
    go_wp2_with (go_at_call 102; refine (spec_NameOk n _ hn).mono ?_; rw [HN.out]; rintro e w' ⟨rfl, rfl⟩)
    refine (spec_LeavesOk _ xs _ (h.ext (by repeat (first | (with_reducible first | exact Ext.refl _ | assumption | apply Ext.alloc | apply Ext.drew | apply Ext.drewN | refine Ext.setCell ?_ ?_ _ | refine Ext.trans ?_ (by assumption)) | (show _ ≤ _; first | omega | (dsimp only; omega) | (simp; done) | (simp; omega))))) hf).mono ?_
    rw [H1.out]
    rintro e w1 ⟨rfl, x1⟩
    have E_x1 := Old.of x1; (repeat (first | (replace E_x1 := Old.undrew E_x1) | (replace E_x1 := Old.undrewN E_x1))); have c_E_x1 := Old.cell E_x1; have f_E_x1 := Old.frozen E_x1; have z_E_x1 := Old.size E_x1; try simp only [World.size_alloc] at c_E_x1 f_E_x1 z_E_x1; try have l_E_x1 := Nat.lt_of_succ_le z_E_x1; try have m_E_x1 := Nat.lt_of_succ_lt l_E_x1; try have n_E_x1 := Nat.lt_of_succ_lt m_E_x1
    go_wp2
    go_ret
    exact ⟨ret_bool R.out.symm, (by repeat (first | (with_reducible first | exact Ext.refl _ | assumption | apply Ext.alloc | apply Ext.drew | apply Ext.drewN | refine Ext.setCell ?_ ?_ _ | refine Ext.trans ?_ (by assumption)) | (show _ ≤ _; first | omega | (dsimp only; omega) | (simp; done) | (simp; omega))))⟩
  case inr.inr.inl =>
    have R := Lib.hid (ok_bad2 (n := n) hp)
    have HN := Lib.hid hn1
    have H1 := Lib.hid h1
    have H4 := Lib.hid (show (wide ss wd && inB wd 1 32) = false by rw [h3]; simp)
    have h2i : ¬ ((8 : Int) < ss.length) := by omega
    clear hp h1 h3 hn1
    go_enter Tryz.func57, Tryz.ntmps57
    go_wp2_with (go_at_call 102; refine (spec_NameOk n _ hn).mono ?_; rw [HN.out]; rintro e w' ⟨rfl, rfl⟩)
    refine (spec_LeavesOk _ xs _ (h.ext (by repeat (first | (with_reducible first | exact Ext.refl _ | assumption | apply Ext.alloc | apply Ext.drew | apply Ext.drewN | refine Ext.setCell ?_ ?_ _ | refine Ext.trans ?_ (by assumption)) | (show _ ≤ _; first | omega | (dsimp only; omega) | (simp; done) | (simp; omega))))) hf).mono ?_
    rw [H1.out]
    rintro e w1 ⟨rfl, x1⟩
    have E_x1 := Old.of x1; (repeat (first | (replace E_x1 := Old.undrew E_x1) | (replace E_x1 := Old.undrewN E_x1))); have c_E_x1 := Old.cell E_x1; have f_E_x1 := Old.frozen E_x1; have z_E_x1 := Old.size E_x1; try simp only [World.size_alloc] at c_E_x1 f_E_x1 z_E_x1; try have l_E_x1 := Nat.lt_of_succ_le z_E_x1; try have m_E_x1 := Nat.lt_of_succ_lt l_E_x1; try have n_E_x1 := Nat.lt_of_succ_lt m_E_x1
    go_wp2_with (go_at_call 58; refine (spec_l11Wide _ ss _ _ (hu.ext (by repeat (first | (with_reducible first | exact Ext.refl _ | assumption | apply Ext.alloc | apply Ext.drew | apply Ext.drewN | refine Ext.setCell ?_ ?_ _ | refine Ext.trans ?_ (by assumption)) | (show _ ≤ _; first | omega | (dsimp only; omega) | (simp; done) | (simp; omega))))) hs).mono ?_; rw [H4.out]; rintro e w' ⟨rfl, rfl⟩)
    go_ret
    exact ⟨ret_bool R.out.symm, (by repeat (first | (with_reducible first | exact Ext.refl _ | assumption | apply Ext.alloc | apply Ext.drew | apply Ext.drewN | refine Ext.setCell ?_ ?_ _ | refine Ext.trans ?_ (by assumption)) | (show _ ≤ _; first | omega | (dsimp only; omega) | (simp; done) | (simp; omega))))⟩
  case inr.inr.inr.inl =>
    have R := Lib.hid (ok_bad2 (n := n) hp)
    have HN := Lib.hid hn1
    have H1 := Lib.hid h1
    have H4 := Lib.hid (show (wide ss wd && inB wd 1 32) = false by rw [h4]; rfl)
    have h2i : ¬ ((8 : Int) < ss.length) := by omega
    clear hp h1 h3 h4 hn1
    go_enter Tryz.func57, Tryz.ntmps57
    go_wp2_with (go_at_call 102; refine (spec_NameOk n _ hn).mono ?_; rw [HN.out]; rintro e w' ⟨rfl, rfl⟩)
    refine (spec_LeavesOk _ xs _ (h.ext (by repeat (first | (with_reducible first | exact Ext.refl _ | assumption | apply Ext.alloc | apply Ext.drew | apply Ext.drewN | refine Ext.setCell ?_ ?_ _ | refine Ext.trans ?_ (by assumption)) | (show _ ≤ _; first | omega | (dsimp only; omega) | (simp; done) | (simp; omega))))) hf).mono ?_
    rw [H1.out]
    rintro e w1 ⟨rfl, x1⟩
    have E_x1 := Old.of x1; (repeat (first | (replace E_x1 := Old.undrew E_x1) | (replace E_x1 := Old.undrewN E_x1))); have c_E_x1 := Old.cell E_x1; have f_E_x1 := Old.frozen E_x1; have z_E_x1 := Old.size E_x1; try simp only [World.size_alloc] at c_E_x1 f_E_x1 z_E_x1; try have l_E_x1 := Nat.lt_of_succ_le z_E_x1; try have m_E_x1 := Nat.lt_of_succ_lt l_E_x1; try have n_E_x1 := Nat.lt_of_succ_lt m_E_x1
    go_wp2_with (go_at_call 58; refine (spec_l11Wide _ ss _ _ (hu.ext (by repeat (first | (with_reducible first | exact Ext.refl _ | assumption | apply Ext.alloc | apply Ext.drew | apply Ext.drewN | refine Ext.setCell ?_ ?_ _ | refine Ext.trans ?_ (by assumption)) | (show _ ≤ _; first | omega | (dsimp only; omega) | (simp; done) | (simp; omega))))) hs).mono ?_; rw [H4.out]; rintro e w' ⟨rfl, rfl⟩)
    go_ret
    exact ⟨ret_bool R.out.symm, (by repeat (first | (with_reducible first | exact Ext.refl _ | assumption | apply Ext.alloc | apply Ext.drew | apply Ext.drewN | refine Ext.setCell ?_ ?_ _ | refine Ext.trans ?_ (by assumption)) | (show _ ≤ _; first | omega | (dsimp only; omega) | (simp; done) | (simp; omega))))⟩
  case inr.inr.inr.inr =>
    have R := Lib.hid (ok_last hn1 hp)
    have HN := Lib.hid hn1
    have H1 := Lib.hid h1
    have H4 := Lib.hid (show (wide ss wd && inB wd 1 32) = true by rw [h4, h3]; rfl)
    have h2i : ¬ ((8 : Int) < ss.length) := by omega
    have hnm := leaves_names h1
    have HM := Lib.hid hnm
    have hlen : xs.length ≤ 1099511627776 := by have := (leavesOk_small h1).1; omega
    have hnsz : n.size ≤ 1073741824 := by have := nameOk_size HN.out; omega
    clear hp h1 h3 h4 hn1 hnm
    go_enter Tryz.func57, Tryz.ntmps57
    go_wp2_with (go_at_call 102; refine (spec_NameOk n _ hn).mono ?_; rw [HN.out]; rintro e w' ⟨rfl, rfl⟩)
    refine (spec_LeavesOk _ xs _ (h.ext (by repeat (first | (with_reducible first | exact Ext.refl _ | assumption | apply Ext.alloc | apply Ext.drew | apply Ext.drewN | refine Ext.setCell ?_ ?_ _ | refine Ext.trans ?_ (by assumption)) | (show _ ≤ _; first | omega | (dsimp only; omega) | (simp; done) | (simp; omega))))) hf).mono ?_
    rw [H1.out]
    rintro e w1 ⟨rfl, x1⟩
    have E_x1 := Old.of x1; (repeat (first | (replace E_x1 := Old.undrew E_x1) | (replace E_x1 := Old.undrewN E_x1))); have c_E_x1 := Old.cell E_x1; have f_E_x1 := Old.frozen E_x1; have z_E_x1 := Old.size E_x1; try simp only [World.size_alloc] at c_E_x1 f_E_x1 z_E_x1; try have l_E_x1 := Nat.lt_of_succ_le z_E_x1; try have m_E_x1 := Nat.lt_of_succ_lt l_E_x1; try have n_E_x1 := Nat.lt_of_succ_lt m_E_x1
    go_wp2_with (go_at_call 58; refine (spec_l11Wide _ ss _ _ (hu.ext (by repeat (first | (with_reducible first | exact Ext.refl _ | assumption | apply Ext.alloc | apply Ext.drew | apply Ext.drewN | refine Ext.setCell ?_ ?_ _ | refine Ext.trans ?_ (by assumption)) | (show _ ≤ _; first | omega | (dsimp only; omega) | (simp; done) | (simp; omega))))) hs).mono ?_; rw [H4.out]; rintro e w' ⟨rfl, rfl⟩)
    have q0 := c_E_x1 (w.heap.size) 0 (by omega); simp [go_sem] at q0; have q1 := c_E_x1 (w.heap.size) 1 (by omega); simp [go_sem] at q1
    clear h2i
    refine (spec_IndexOf n _ hnsz).mono ?_
    rintro e w2 ⟨rfl, x2⟩
    have hx0 : Ext w1 w2 := (by repeat (first | (with_reducible first | exact Ext.refl _ | assumption | apply Ext.alloc | apply Ext.drew | apply Ext.drewN | refine Ext.setCell ?_ ?_ _ | refine Ext.trans ?_ (by assumption)) | (show _ ≤ _; first | omega | (dsimp only; omega) | (simp; done) | (simp; omega))))
    obtain ⟨-, a1, c1, hv, hc1, hm1, g1⟩ := id h
    injection hv with e1 e2 e3
    subst e1 e3
    unfold maxLen at hm1
    have ll := l_E_x1
    clear c_E_x1 f_E_x1
    go_wp2
    go_loopw [8] (fun i wr => ∃ k : Nat, k ≤ xs.length ∧ i = .int .i64 k ∧ (xs.take k).all (bktP (idxT n)) = true ∧ Ext w1 wr) (fun i _ => xs.length - (intOf i).toNat)
    case atStart => exact ⟨0, Nat.zero_le _, rfl, rfl, (by repeat (first | (with_reducible first | exact Ext.refl _ | assumption | apply Ext.alloc | apply Ext.drew | apply Ext.drewN | refine Ext.setCell ?_ ?_ _ | refine Ext.trans ?_ (by assumption)) | (show _ ≤ _; first | omega | (dsimp only; omega) | (simp; done) | (simp; omega))))⟩
    case round =>
      obtain ⟨k, hk, rfl, hall, hx⟩ := hrel
      have HA := Lib.hid hall
      clear hall
      have e0 : wr.cell? ⟨w.heap.size, 0, none⟩ = some (.slice a xs.length c) := (hx.cell _ _ ll).trans q0
      by_cases hlt : k < xs.length
      · rcases g1 with g1 | ⟨b1, o1, rfl, hb1, g1⟩
        · omega
        have xw : Ext w wr := (by repeat (first | (with_reducible first | exact Ext.refl _ | assumption | apply Ext.alloc | apply Ext.drew | apply Ext.drewN | refine Ext.setCell ?_ ?_ _ | refine Ext.trans ?_ (by assumption)) | (show _ ≤ _; first | omega | (dsimp only; omega) | (simp; done) | (simp; omega))))
        have e1 : wr.cell? ⟨b1, o1 + k * 2, none⟩ = some (.string xs[k].name) := (xw.cell b1 _ hb1).trans (g1 _ _ (leaf_c0 xs k hlt))
        have hnm := HM.out xs[k] (List.getElem_mem hlt)
        clear g1
        go_wp2_with fail
        refine (spec_IndexOf xs[k].name _ hnm).mono ?_
        rintro e w3 ⟨rfl, x3⟩
        have hx3 : Ext w1 w3 := (by repeat (first | (with_reducible first | exact Ext.refl _ | assumption | apply Ext.alloc | apply Ext.drew | apply Ext.drewN | refine Ext.setCell ?_ ?_ _ | refine Ext.trans ?_ (by assumption)) | (show _ ≤ _; first | omega | (dsimp only; omega) | (simp; done) | (simp; omega))))
        by_cases hq : bktP (idxT n) xs[k] = true
        · have HU := Lib.hid (bkt_step hlt HA.out hq)
          have hqb : (idxT xs[k].name != idxT n) = false := by
            have : (idxT xs[k].name == idxT n) = true := hq
            simpa using this
          clear hq
          go_wp2
          go_roundw
          case rel => exact ⟨k + 1, by omega, by go_num, HU.out, (by repeat (first | (with_reducible first | exact Ext.refl _ | assumption | apply Ext.alloc | apply Ext.drew | apply Ext.drewN | refine Ext.setCell ?_ ?_ _ | refine Ext.trans ?_ (by assumption)) | (show _ ≤ _; first | omega | (dsimp only; omega) | (simp; done) | (simp; omega))))⟩
          case measure => simp [intOf]; omega
        · have hqb : (idxT xs[k].name != idxT n) = true := by
            have : ¬ (idxT xs[k].name == idxT n) = true := hq
            simpa using this
          have HF := Lib.hid (show bktAll n xs = false by
            rw [bktAll, List.all_eq_false]
            exact ⟨xs[k], List.getElem_mem hlt, hq⟩)
          clear hq
          go_wp2
          go_ret
          exact ⟨ret_bool (by rw [R.out, HF.out]), (by repeat (first | (with_reducible first | exact Ext.refl _ | assumption | apply Ext.alloc | apply Ext.drew | apply Ext.drewN | refine Ext.setCell ?_ ?_ _ | refine Ext.trans ?_ (by assumption)) | (show _ ≤ _; first | omega | (dsimp only; omega) | (simp; done) | (simp; omega))))⟩
      · have HF := Lib.hid (show bktAll n xs = true by
          have h1 := HA.out
          rwa [List.take_of_length_le (by omega)] at h1)
        clear g1
        go_wp2
        go_ret
        exact ⟨ret_bool (by rw [R.out, HF.out]), (by repeat (first | (with_reducible first | exact Ext.refl _ | assumption | apply Ext.alloc | apply Ext.drew | apply Ext.drewN | refine Ext.setCell ?_ ?_ _ | refine Ext.trans ?_ (by assumption)) | (show _ ≤ _; first | omega | (dsimp only; omega) | (simp; done) | (simp; omega))))⟩

end Go.Proofs.YtckipgijfgeghaaGreatDoor
