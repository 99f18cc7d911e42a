/- ProveLeaf: both. -/
import Derived.Test.YtliebkhfddmhjaaDoorTree
import Derived.Test.YtliebkhfddmhjaaDoorLTxA
namespace Go.Proofs.YtliebkhfddmhjaaDoor
open Go.RowKit

def plOk (xs : List Leaf) (n : ByteArray) (l wd : Int) : Bool := leavesOk xs && (nameOk n && (inB l 0 8 && inB wd 1 32))
def plB (xs : List Leaf) (n : ByteArray) (l wd : Int) : List Leaf := if plOk xs n l wd = true then bktL xs (idxT n) else []
def plS (xs : List Leaf) (n : ByteArray) (l wd : Int) : List ByteArray := if plOk xs n l wd = true then sdF xs (idxT n) l wd else []
theorem pl_no {xs : List Leaf} {n : ByteArray} {l wd : Int} (h : plOk xs n l wd = false) : plB xs n l wd = [] ∧ plS xs n l wd = [] := by
  rw [plB, plS, h]; exact ⟨rfl, rfl⟩
theorem pl_yes {xs : List Leaf} {n : ByteArray} {l wd : Int} (h : plOk xs n l wd = true) : plB xs n l wd = bktL xs (idxT n) ∧ plS xs n l wd = sdF xs (idxT n) l wd := by
  rw [plB, plS, h]; exact ⟨rfl, rfl⟩
theorem pl_size {n : ByteArray} (h : nameOk n = true) : n.size ≤ 12 := by
  rw [nameOk, Bool.and_eq_true] at h
  have := inB_true.1 h.2
  omega
theorem plB_len (xs : List Leaf) (n : ByteArray) (l wd : Int) : (plB xs n l wd).length ≤ xs.length := by
  unfold plB
  split
  · exact Nat.le_trans (pickOn_length _ _ _) (Nat.le_refl _)
  · exact Nat.zero_le _
theorem plS_len (xs : List Leaf) (n : ByteArray) (l wd : Int) : (plS xs n l wd).length ≤ 8 := by
  unfold plS
  split
  · exact sdF_len _ _ _ _
  · exact Nat.zero_le _

set_option maxRecDepth 100000 in
set_option maxHeartbeats 1600000 in
theorem spec_ProveLeaf (v : Value) (xs : List Leaf) (n : ByteArray) (l wd : Int) (w : World) (h : Lvs w v xs) (hf : LeafFit xs) (hn : n.size ≤ maxLen) :
    Calls Tryd.prog 68 #[v, .string n, .int .i64 l, .int .i64 wd] w fun e w' => ∃ a c b d, e = .returned (.tuple #[.agg #[.slice a (plB xs n l wd).length c, .slice b (plS xs n l wd).length d], .bool (plOk xs n l wd)]) ∧ OwnLvs w' w.heap.size (.slice a (plB xs n l wd).length c) (plB xs n l wd) ∧ (∃ m, (∀ k, (Value.slice a (plB xs n l wd).length c).ownBlock = some k → k < m) ∧ w.heap.size ≤ m ∧ OwnStrs w' m (.slice b (plS xs n l wd).length d) (plS xs n l wd)) ∧ Ext w w' := by
  obtain ⟨a, c, rfl⟩ := h.form
  cases h1 : leavesOk xs
  · have hno : plOk xs n l wd = false := by rw [plOk, h1]; simp
    have RO := Lib.hid hno
    have RB := Lib.hid (pl_no hno).1
    have RS := Lib.hid (pl_no hno).2
    have H1 := Lib.hid h1
    clear h1 hno
    go_enter Tryd.func68, Tryd.ntmps68
    go_wp2_with fail
    refine (spec_LeavesOk _ xs _ (h.ext (by repeat (first | (with_reducible first | exact Ext.refl _ | assumption | apply Ext.alloc | apply Ext.drew | apply Ext.drewN | refine Ext.setCell ?_ ?_ _ | refine Ext.trans ?_ (by assumption)) | (show _ ≤ _; first | omega | (dsimp only; omega) | (simp; done) | (simp; omega))))) hf).mono ?_; rw [H1.out]; rintro e w1 ⟨rfl, x1⟩
    have E_x1 := Old.of x1; (repeat (first | (replace E_x1 := Old.undrew E_x1) | (replace E_x1 := Old.undrewN E_x1))); have c_E_x1 := Old.cell E_x1; have f_E_x1 := Old.frozen E_x1; have z_E_x1 := Old.size E_x1; try simp only [World.size_alloc] at c_E_x1 f_E_x1 z_E_x1; try have l_E_x1 := Nat.lt_of_succ_le z_E_x1; try have m_E_x1 := Nat.lt_of_succ_lt l_E_x1; try have n_E_x1 := Nat.lt_of_succ_lt m_E_x1
    have r0 := c_E_x1 (w.heap.size) 0 (by omega); simp [go_sem] at r0; have r1 := c_E_x1 (w.heap.size) 1 (by omega); simp [go_sem] at r1
    go_wp2
    refine bodyPost_ret (v := .tuple #[.agg #[.slice none 0 0, .slice none 0 0], .bool false]) (by simp [results, Tryd.results68, go_sem, r0, r1]) rfl ⟨none, 0, none, 0, by rw [RB.out, RS.out, RO.out]; rfl, by rw [RB.out]; exact World.ownsRow_nil _ _ _ _, ⟨w.heap.size, (fun k hk => by simp [Value.ownBlock] at hk), Nat.le_refl _, by rw [RS.out]; exact World.ownsRow_nil _ _ _ _⟩, (by repeat (first | (with_reducible first | exact Ext.refl _ | assumption | apply Ext.alloc | apply Ext.drew | apply Ext.drewN | refine Ext.setCell ?_ ?_ _ | refine Ext.trans ?_ (by assumption)) | (show _ ≤ _; first | omega | (dsimp only; omega) | (simp; done) | (simp; omega))))⟩
  cases h2 : nameOk n
  · have hno : plOk xs n l wd = false := by rw [plOk, h2]; simp
    have RO := Lib.hid hno
    have RB := Lib.hid (pl_no hno).1
    have RS := Lib.hid (pl_no hno).2
    have H1 := Lib.hid h1
    have H2 := Lib.hid h2
    clear h1 h2 hno
    go_enter Tryd.func68, Tryd.ntmps68
    go_wp2_with fail
    refine (spec_LeavesOk _ xs _ (h.ext (by repeat (first | (with_reducible first | exact Ext.refl _ | assumption | apply Ext.alloc | apply Ext.drew | apply Ext.drewN | refine Ext.setCell ?_ ?_ _ | refine Ext.trans ?_ (by assumption)) | (show _ ≤ _; first | omega | (dsimp only; omega) | (simp; done) | (simp; omega))))) hf).mono ?_; rw [H1.out]; rintro e w1 ⟨rfl, x1⟩
    have E_x1 := Old.of x1; (repeat (first | (replace E_x1 := Old.undrew E_x1) | (replace E_x1 := Old.undrewN E_x1))); have c_E_x1 := Old.cell E_x1; have f_E_x1 := Old.frozen E_x1; have z_E_x1 := Old.size E_x1; try simp only [World.size_alloc] at c_E_x1 f_E_x1 z_E_x1; try have l_E_x1 := Nat.lt_of_succ_le z_E_x1; try have m_E_x1 := Nat.lt_of_succ_lt l_E_x1; try have n_E_x1 := Nat.lt_of_succ_lt m_E_x1
    have r0 := c_E_x1 (w.heap.size) 0 (by omega); simp [go_sem] at r0; have r1 := c_E_x1 (w.heap.size) 1 (by omega); simp [go_sem] at r1
    go_wp2_with fail
    refine (spec_NameOk n _ hn).mono ?_; rw [H2.out]; rintro e w' ⟨rfl, rfl⟩
    go_wp2
    refine bodyPost_ret (v := .tuple #[.agg #[.slice none 0 0, .slice none 0 0], .bool false]) (by simp [results, Tryd.results68, go_sem, r0, r1]) rfl ⟨none, 0, none, 0, by rw [RB.out, RS.out, RO.out]; rfl, by rw [RB.out]; exact World.ownsRow_nil _ _ _ _, ⟨w.heap.size, (fun k hk => by simp [Value.ownBlock] at hk), Nat.le_refl _, by rw [RS.out]; exact World.ownsRow_nil _ _ _ _⟩, (by repeat (first | (with_reducible first | exact Ext.refl _ | assumption | apply Ext.alloc | apply Ext.drew | apply Ext.drewN | refine Ext.setCell ?_ ?_ _ | refine Ext.trans ?_ (by assumption)) | (show _ ≤ _; first | omega | (dsimp only; omega) | (simp; done) | (simp; omega))))⟩
  cases h3 : inB l 0 8
  · have hno : plOk xs n l wd = false := by rw [plOk, h3]; simp
    have RO := Lib.hid hno
    have RB := Lib.hid (pl_no hno).1
    have RS := Lib.hid (pl_no hno).2
    have H1 := Lib.hid h1
    have H2 := Lib.hid h2
    have H3 := Lib.hid h3
    clear h1 h2 h3 hno
    go_enter Tryd.func68, Tryd.ntmps68
    go_wp2_with fail
    refine (spec_LeavesOk _ xs _ (h.ext (by repeat (first | (with_reducible first | exact Ext.refl _ | assumption | apply Ext.alloc | apply Ext.drew | apply Ext.drewN | refine Ext.setCell ?_ ?_ _ | refine Ext.trans ?_ (by assumption)) | (show _ ≤ _; first | omega | (dsimp only; omega) | (simp; done) | (simp; omega))))) hf).mono ?_; rw [H1.out]; rintro e w1 ⟨rfl, x1⟩
    have E_x1 := Old.of x1; (repeat (first | (replace E_x1 := Old.undrew E_x1) | (replace E_x1 := Old.undrewN E_x1))); have c_E_x1 := Old.cell E_x1; have f_E_x1 := Old.frozen E_x1; have z_E_x1 := Old.size E_x1; try simp only [World.size_alloc] at c_E_x1 f_E_x1 z_E_x1; try have l_E_x1 := Nat.lt_of_succ_le z_E_x1; try have m_E_x1 := Nat.lt_of_succ_lt l_E_x1; try have n_E_x1 := Nat.lt_of_succ_lt m_E_x1
    have r0 := c_E_x1 (w.heap.size) 0 (by omega); simp [go_sem] at r0; have r1 := c_E_x1 (w.heap.size) 1 (by omega); simp [go_sem] at r1
    go_wp2_with fail
    refine (spec_NameOk n _ hn).mono ?_; rw [H2.out]; rintro e w' ⟨rfl, rfl⟩
    go_wp2_with fail
    refine (spec_l01In _ _ _ _).mono ?_; rw [H3.out]; rintro e w' ⟨rfl, rfl⟩
    go_wp2
    refine bodyPost_ret (v := .tuple #[.agg #[.slice none 0 0, .slice none 0 0], .bool false]) (by simp [results, Tryd.results68, go_sem, r0, r1]) rfl ⟨none, 0, none, 0, by rw [RB.out, RS.out, RO.out]; rfl, by rw [RB.out]; exact World.ownsRow_nil _ _ _ _, ⟨w.heap.size, (fun k hk => by simp [Value.ownBlock] at hk), Nat.le_refl _, by rw [RS.out]; exact World.ownsRow_nil _ _ _ _⟩, (by repeat (first | (with_reducible first | exact Ext.refl _ | assumption | apply Ext.alloc | apply Ext.drew | apply Ext.drewN | refine Ext.setCell ?_ ?_ _ | refine Ext.trans ?_ (by assumption)) | (show _ ≤ _; first | omega | (dsimp only; omega) | (simp; done) | (simp; omega))))⟩
  cases h4 : inB wd 1 32
  · have hno : plOk xs n l wd = false := by rw [plOk, h4]; simp
    have RO := Lib.hid hno
    have RB := Lib.hid (pl_no hno).1
    have RS := Lib.hid (pl_no hno).2
    have H1 := Lib.hid h1
    have H2 := Lib.hid h2
    have H3 := Lib.hid h3
    have H4 := Lib.hid h4
    clear h1 h2 h3 h4 hno
    go_enter Tryd.func68, Tryd.ntmps68
    go_wp2_with fail
    refine (spec_LeavesOk _ xs _ (h.ext (by repeat (first | (with_reducible first | exact Ext.refl _ | assumption | apply Ext.alloc | apply Ext.drew | apply Ext.drewN | refine Ext.setCell ?_ ?_ _ | refine Ext.trans ?_ (by assumption)) | (show _ ≤ _; first | omega | (dsimp only; omega) | (simp; done) | (simp; omega))))) hf).mono ?_; rw [H1.out]; rintro e w1 ⟨rfl, x1⟩
    have E_x1 := Old.of x1; (repeat (first | (replace E_x1 := Old.undrew E_x1) | (replace E_x1 := Old.undrewN E_x1))); have c_E_x1 := Old.cell E_x1; have f_E_x1 := Old.frozen E_x1; have z_E_x1 := Old.size E_x1; try simp only [World.size_alloc] at c_E_x1 f_E_x1 z_E_x1; try have l_E_x1 := Nat.lt_of_succ_le z_E_x1; try have m_E_x1 := Nat.lt_of_succ_lt l_E_x1; try have n_E_x1 := Nat.lt_of_succ_lt m_E_x1
    have r0 := c_E_x1 (w.heap.size) 0 (by omega); simp [go_sem] at r0; have r1 := c_E_x1 (w.heap.size) 1 (by omega); simp [go_sem] at r1
    go_wp2_with fail
    refine (spec_NameOk n _ hn).mono ?_; rw [H2.out]; rintro e w' ⟨rfl, rfl⟩
    go_wp2_with fail
    refine (spec_l01In _ _ _ _).mono ?_; rw [H3.out]; rintro e w' ⟨rfl, rfl⟩
    go_wp2_with fail
    refine (spec_l01In _ _ _ _).mono ?_; rw [H4.out]; rintro e w' ⟨rfl, rfl⟩
    go_wp2
    refine bodyPost_ret (v := .tuple #[.agg #[.slice none 0 0, .slice none 0 0], .bool false]) (by simp [results, Tryd.results68, go_sem, r0, r1]) rfl ⟨none, 0, none, 0, by rw [RB.out, RS.out, RO.out]; rfl, by rw [RB.out]; exact World.ownsRow_nil _ _ _ _, ⟨w.heap.size, (fun k hk => by simp [Value.ownBlock] at hk), Nat.le_refl _, by rw [RS.out]; exact World.ownsRow_nil _ _ _ _⟩, (by repeat (first | (with_reducible first | exact Ext.refl _ | assumption | apply Ext.alloc | apply Ext.drew | apply Ext.drewN | refine Ext.setCell ?_ ?_ _ | refine Ext.trans ?_ (by assumption)) | (show _ ≤ _; first | omega | (dsimp only; omega) | (simp; done) | (simp; omega))))⟩
  have hyes : plOk xs n l wd = true := by rw [plOk, h1, h2, h3, h4]; rfl
  have RO := Lib.hid hyes
  have RB := Lib.hid (pl_yes hyes).1
  have RS0 := (pl_yes hyes).2
  have hix := idxT_bd n
  have hx2 : inB (idxT n) 0 255 = true := inB_true.2 hix
  have hnz := pl_size h2
  have hnsz : n.size ≤ 1073741824 := by omega
  have hnm := names_ok h1
  have hx24 := (leavesOk_small h1).1
  have hxl : xs.length ≤ 1099511627776 := by omega
  have RS := Lib.hid RS0
  have H1 := Lib.hid h1
  have H2 := Lib.hid h2
  have H3 := Lib.hid h3
  have H4 := Lib.hid h4
  clear h1 h2 h3 h4 hyes RS0 hx2
  go_enter Tryd.func68, Tryd.ntmps68
  go_wp2_with fail
  refine (spec_LeavesOk _ xs _ (h.ext (by repeat (first | (with_reducible first | exact Ext.refl _ | assumption | apply Ext.alloc | apply Ext.drew | apply Ext.drewN | refine Ext.setCell ?_ ?_ _ | refine Ext.trans ?_ (by assumption)) | (show _ ≤ _; first | omega | (dsimp only; omega) | (simp; done) | (simp; omega))))) hf).mono ?_; rw [H1.out]; rintro e w1 ⟨rfl, x1⟩
  have E_x1 := Old.of x1; (repeat (first | (replace E_x1 := Old.undrew E_x1) | (replace E_x1 := Old.undrewN E_x1))); have c_E_x1 := Old.cell E_x1; have f_E_x1 := Old.frozen E_x1; have z_E_x1 := Old.size E_x1; try simp only [World.size_alloc] at c_E_x1 f_E_x1 z_E_x1; try have l_E_x1 := Nat.lt_of_succ_le z_E_x1; try have m_E_x1 := Nat.lt_of_succ_lt l_E_x1; try have n_E_x1 := Nat.lt_of_succ_lt m_E_x1
  have r0 := c_E_x1 (w.heap.size) 0 (by omega); simp [go_sem] at r0; have r1 := c_E_x1 (w.heap.size) 1 (by omega); simp [go_sem] at r1
  go_wp2_with fail
  refine (spec_NameOk n _ hn).mono ?_; rw [H2.out]; rintro e w' ⟨rfl, rfl⟩
  go_wp2_with fail
  refine (spec_l01In _ _ _ _).mono ?_; rw [H3.out]; rintro e w' ⟨rfl, rfl⟩
  go_wp2_with fail
  refine (spec_l01In _ _ _ _).mono ?_; rw [H4.out]; rintro e w' ⟨rfl, rfl⟩
  have lw : w.heap.size < w1.heap.size := l_E_x1
  have fr : ∀ j, w1.frozen? ⟨w.heap.size, j, none⟩ = false := fun j => by rw [f_E_x1 _ _ (by omega)]; simp [go_sem]
  clear c_E_x1 f_E_x1
  go_wp2_with fail
  refine (spec_IndexOf n _ hnsz).mono ?_
  rintro e w2 ⟨rfl, x2⟩
  go_wp2_with fail
  refine (spec_BucketOf _ xs (idxT n) _ (h.ext (by repeat (first | (with_reducible first | exact Ext.refl _ | assumption | apply Ext.alloc | apply Ext.drew | apply Ext.drewN | refine Ext.setCell ?_ ?_ _ | refine Ext.trans ?_ (by assumption)) | (show _ ≤ _; first | omega | (dsimp only; omega) | (simp; done) | (simp; omega))))) hnm hxl).mono ?_
  rintro e w3 ⟨a3, c3, rfl, o3, x3⟩
  go_wp2_with fail
  refine (spec_IndexOf n _ hnsz).mono ?_
  rintro e w4 ⟨rfl, x4⟩
  go_wp2_with fail
  refine (spec_SidesOf _ xs (idxT n) l wd _ (h.ext (by repeat (first | (with_reducible first | exact Ext.refl _ | assumption | apply Ext.alloc | apply Ext.drew | apply Ext.drewN | refine Ext.setCell ?_ ?_ _ | refine Ext.trans ?_ (by assumption)) | (show _ ≤ _; first | omega | (dsimp only; omega) | (simp; done) | (simp; omega))))) hf).mono ?_
  rintro e w5 ⟨a5, c5, rfl, o5, x5⟩
  have z34 : w3.heap.size ≤ w4.heap.size := Ext.size (show Ext w3 w4 from (by repeat (first | (with_reducible first | exact Ext.refl _ | assumption | apply Ext.alloc | apply Ext.drew | apply Ext.drewN | refine Ext.setCell ?_ ?_ _ | refine Ext.trans ?_ (by assumption)) | (show _ ≤ _; first | omega | (dsimp only; omega) | (simp; done) | (simp; omega)))))
  have z23 : w2.heap.size ≤ w3.heap.size := Ext.size (show Ext w2 w3 from (by repeat (first | (with_reducible first | exact Ext.refl _ | assumption | apply Ext.alloc | apply Ext.drew | apply Ext.drewN | refine Ext.setCell ?_ ?_ _ | refine Ext.trans ?_ (by assumption)) | (show _ ≤ _; first | omega | (dsimp only; omega) | (simp; done) | (simp; omega)))))
  have z12 : w1.heap.size ≤ w2.heap.size := Ext.size (show Ext w1 w2 from (by repeat (first | (with_reducible first | exact Ext.refl _ | assumption | apply Ext.alloc | apply Ext.drew | apply Ext.drewN | refine Ext.setCell ?_ ?_ _ | refine Ext.trans ?_ (by assumption)) | (show _ ≤ _; first | omega | (dsimp only; omega) | (simp; done) | (simp; omega)))))
  have hlt := fun k hk => Nat.lt_of_lt_of_le (own_lt o3 k hk).2 z34
  have O3 := Lib.hid (o3.ext (show Ext w3 w5 from (by repeat (first | (with_reducible first | exact Ext.refl _ | assumption | apply Ext.alloc | apply Ext.drew | apply Ext.drewN | refine Ext.setCell ?_ ?_ _ | refine Ext.trans ?_ (by assumption)) | (show _ ≤ _; first | omega | (dsimp only; omega) | (simp; done) | (simp; omega))))))
  have O5 := Lib.hid o5
  have HLT := Lib.hid hlt
  have y5 : Ext w1 w5 := (by repeat (first | (with_reducible first | exact Ext.refl _ | assumption | apply Ext.alloc | apply Ext.drew | apply Ext.drewN | refine Ext.setCell ?_ ?_ _ | refine Ext.trans ?_ (by assumption)) | (show _ ≤ _; first | omega | (dsimp only; omega) | (simp; done) | (simp; omega))))
  have s0 := (y5.cell _ _ lw).trans r0
  have s1 := (y5.cell _ _ lw).trans r1
  have gr : ∀ j, w5.frozen? ⟨w.heap.size, j, none⟩ = false := fun j => (y5.frozen _ j lw).trans (fr j)
  clear o3 o5 hlt
  go_wp2
  refine bodyPost_ret (v := .tuple #[.agg #[.slice a3 (bktL xs (idxT n)).length c3, .slice a5 (sdF xs (idxT n) l wd).length c5], .bool true]) (by simp [results, Tryd.results68, go_sem, s0, s1]) rfl ⟨a3, c3, a5, c5, ?_, ?_, ⟨w4.heap.size, ?_, ?_, ?_⟩, ?_⟩
  · rw [RB.out, RO.out, RS.out]
  · have ho := O3.out
    rw [RB.out]
    exact (by show World.ownsRow _ _ _ _ _ _ _; apply own_mono; (repeat (with_reducible first | apply own_below | apply own_alloc | apply own_drew | apply own_drewN | refine own_ext ?_ (by assumption))); exact ho; all_goals (first | omega | (dsimp only; omega) | (simp; done) | (simp; omega)))
  · rw [RB.out]; exact HLT.out
  · omega
  · have ho := O5.out
    rw [RS.out]
    exact (by show World.ownsRow _ _ _ _ _ _ _; apply own_mono; (repeat (with_reducible first | apply own_below | apply own_alloc | apply own_drew | apply own_drewN | refine own_ext ?_ (by assumption))); exact ho; all_goals (first | omega | (dsimp only; omega) | (simp; done) | (simp; omega)))
  · exact (by repeat (first | (with_reducible first | exact Ext.refl _ | assumption | apply Ext.alloc | apply Ext.drew | apply Ext.drewN | refine Ext.setCell ?_ ?_ _ | refine Ext.trans ?_ (by assumption)) | (show _ ≤ _; first | omega | (dsimp only; omega) | (simp; done) | (simp; omega))))

end Go.Proofs.YtliebkhfddmhjaaDoor
