/- LText, LText2, Well, Proof in one text. -/
import Derived.Test.YtliebkhfddmhjaaLeafA
import Derived.Test.YtliebkhfddmhjaaStrA
import Derived.Test.YtliebkhfddmhjaaCore
import Derived.Deep.RegionHeld3
namespace Go.Proofs.Ytliebkhfddmhjaa
open Go.RowKit

def leafT (l : Leaf) : ByteArray := varT l.name.size ++ l.name ++ (varT l.value.size ++ l.value)
def leavesUpto (xs : List Leaf) (k : Nat) : ByteArray := (xs.take k).foldl (fun a l => a ++ leafT l) (varT xs.length)
def leavesT (xs : List Leaf) : ByteArray := leavesUpto xs xs.length
theorem leavesUpto_succ (xs : List Leaf) (k : Nat) (h : k < xs.length) : leavesUpto xs (k + 1) = leavesUpto xs k ++ leafT xs[k] := by
  unfold leavesUpto
  rw [List.take_succ_eq_append_getElem h, List.foldl_append]
  rfl
/-- short leaves, not many -/
def LeafSmall (xs : List Leaf) : Prop := xs.length ≤ 1000 ∧ ∀ l ∈ xs, l.name.size ≤ 200 ∧ l.value.size ≤ 200
theorem leavesUpto_size {xs : List Leaf} (hs : LeafSmall xs) : ∀ k, k ≤ xs.length → (leavesUpto xs k).size ≤ 1001 + 1000 * k
  | 0, _ => by have := varT_size xs.length; have := hs.1; simp [leavesUpto]; omega
  | k + 1, h => by
    have h1 := leavesUpto_size hs k (by omega)
    obtain ⟨a, b⟩ := hs.2 xs[k] (List.getElem_mem (by omega))
    have c := varT_size xs[k].name.size
    have d := varT_size xs[k].value.size
    rw [leavesUpto_succ xs k (by omega)]
    simp only [leafT, ByteArray.size_append]
    omega
theorem leavesOk_small {xs : List Leaf} (h : leavesOk xs = true) : xs.length ≤ 24 ∧ ∀ l ∈ xs, (1 ≤ l.name.size ∧ l.name.size ≤ 12) ∧ (1 ≤ l.value.size ∧ l.value.size ≤ 12) := by
  rw [leavesOk, Bool.and_eq_true, decide_eq_true_eq, List.all_eq_true] at h
  refine ⟨h.1, fun l hl => ?_⟩
  obtain ⟨i, hi, rfl⟩ := List.getElem_of_mem hl
  have hg := h.2 i (List.mem_range.2 hi)
  have hd : xs.getD i noLeaf = xs[i] := by simp [hi]
  have hn : nameOk xs[i].name = true ∧ valueOk xs[i].value = true := by
    cases i with
    | zero => simp only [goodAt, hd, Bool.and_eq_true] at hg; exact hg
    | succ j => simp only [goodAt, hd, Bool.and_eq_true] at hg; exact ⟨hg.1, hg.2.1⟩
  have h1 := hn.1
  have h2 := hn.2
  simp only [nameOk, valueOk, Bool.and_eq_true, inB_true] at h1 h2
  omega
theorem leavesOk_LeafSmall {xs : List Leaf} (h : leavesOk xs = true) : LeafSmall xs := by
  obtain ⟨h1, h2⟩ := leavesOk_small h
  exact ⟨by omega, fun l hl => by have := h2 l hl; omega⟩

set_option maxHeartbeats 800000 in
theorem impl_leavesText (v : Value) (xs : List Leaf) (w : World) (h : Lvs w v xs) (hs : LeafSmall xs) :
    Calls Try.prog 89 #[v] w fun e w' => e = .returned (.string (leavesT xs)) ∧ Ext w w' := by
  obtain ⟨-, a1, c1, rfl, hc1, hm1, g1⟩ := h
  unfold maxLen at hm1
  have hl := hs.1
  have HS := Lib.hid hs
  clear hs
  go_enter Try.func89, Try.ntmps89
  go_wp2_with fail
  refine (impl_varText _ _ (by omega)).mono ?_
  rintro e w1 ⟨rfl, x1⟩
  go_wp2_with fail
  go_loopw [3, 11] (fun s i wr => ∃ k : Nat, k ≤ xs.length ∧ i = .int .i64 k ∧ s = .string (leavesUpto xs k) ∧ Ext w wr) (fun _ i _ => xs.length - (intOf i).toNat)
  case atStart => exact ⟨0, Nat.zero_le _, rfl, rfl, x1⟩
  case round =>
    obtain ⟨k, hk, rfl, rfl, hx⟩ := hrel
    by_cases hlt : k < xs.length
    · rcases g1 with g1 | ⟨b1, o1, rfl, hb1, g1⟩
      · omega
      have e1 : wr.cell? ⟨b1, o1 + k * 2, none⟩ = some (.string xs[k].name) := (hx.cell b1 _ hb1).trans (g1 _ _ (leaf_c0 xs k hlt))
      have e2 : wr.cell? ⟨b1, o1 + k * 2 + 1, none⟩ = some (.string xs[k].value) := (hx.cell b1 _ hb1).trans (g1 _ _ (leaf_c1 xs k hlt))
      have l1 : b1 < wr.heap.size := Nat.lt_of_lt_of_le hb1 hx.size
      obtain ⟨s1, s2⟩ := HS.out.2 xs[k] (List.getElem_mem hlt)
      have z0 := leavesUpto_size HS.out k hk
      have z1 := varT_size xs[k].name.size
      have z2 := varT_size xs[k].value.size
      have hsucc := leavesUpto_succ xs k hlt
      have HU := Lib.hid hsucc
      clear hsucc g1
      have a1 : ¬ (9223372036854775807 < (varT xs[k].name.size).size + xs[k].name.size + ((varT xs[k].value.size).size + xs[k].value.size)) := by omega
      have a2 : ¬ (9223372036854775807 < (leavesUpto xs k).size + ((varT xs[k].name.size).size + xs[k].name.size + ((varT xs[k].value.size).size + xs[k].value.size))) := by omega
      have m1 : xs[k].name.size ≤ 1099511627776 := by omega
      have m2 : xs[k].value.size ≤ 1099511627776 := by omega
      clear z0 z1 z2
      go_wp2_with fail
      generalize hW : wr.alloc (Obj.cells #[Value.string xs[k].name, Value.string xs[k].value] 147) = W0
      have y0 : Ext w W0 := by subst hW; exact hx.alloc _
      have p0 : W0.cell? ⟨wr.heap.size, 0, none⟩ = some (.string xs[k].name) := by subst hW; simp [go_sem]
      have p1 : W0.cell? ⟨wr.heap.size, 1, none⟩ = some (.string xs[k].value) := by subst hW; simp [go_sem]
      have l0 : wr.heap.size < W0.heap.size := by subst hW; simp [go_sem]
      clear hW e1 e2 l1
      go_region_held3 (fun W => W.cell? ⟨wr.heap.size, 0, none⟩ = some (.string xs[k].name) ∧ W.cell? ⟨wr.heap.size, 1, none⟩ = some (.string xs[k].value)) (first | exact ⟨p0, p1⟩ | exact ⟨(ya.cell _ _ l0).trans p0, (ya.cell _ _ l0).trans p1⟩) ((go_at_call 59; refine (impl_shortText _ _ (by first | exact m1 | exact m2)).mono ?_; rintro e wa ⟨rfl, xa⟩; have ya : Ext W0 wa := (by repeat (first | (with_reducible first | exact Ext.refl _ | assumption | apply Ext.alloc | apply Ext.drew | apply Ext.drewN | refine Ext.setCell ?_ ?_ _ | refine Ext.trans ?_ (by assumption)) | (show _ ≤ _; first | omega | (dsimp only; omega) | (simp; done) | (simp; omega))))))
      all_goals
        go_wp2
        go_roundw
        case rel => exact ⟨k + 1, by omega, by go_num, by rw [HU.out]; rfl, (by repeat (first | (with_reducible first | exact Ext.refl _ | assumption | apply Ext.alloc | apply Ext.drew | apply Ext.drewN | refine Ext.setCell ?_ ?_ _ | refine Ext.trans ?_ (by assumption)) | (show _ ≤ _; first | omega | (dsimp only; omega) | (simp; done) | (simp; omega))))⟩
        case measure => simp [intOf]; omega
    · have hkn : k = xs.length := by omega
      subst hkn
      clear g1
      go_wp2
      go_ret
      exact ⟨rfl, hx⟩

set_option maxHeartbeats 800000 in
theorem spec_l09Text (v : Value) (xs : List Leaf) (w : World) (h : Lvs w v xs) (hs : LeafSmall xs) :
    Calls Try.prog 102 #[v] w fun e w' => e = .returned (.string (leavesT xs)) ∧ Ext w w' := by
  obtain ⟨-, a1, c1, rfl, hc1, hm1, g1⟩ := h
  unfold maxLen at hm1
  have hl := hs.1
  have HS := Lib.hid hs
  clear hs
  go_enter Try.func102, Try.ntmps102
  go_wp2_with fail
  refine (spec_l01Var _ _ (by omega)).mono ?_
  rintro e w1 ⟨rfl, x1⟩
  go_wp2_with fail
  go_loopw [3, 4] (fun s i wr => ∃ k : Nat, k ≤ xs.length ∧ i = .int .i64 k ∧ s = .string (leavesUpto xs k) ∧ Ext w wr) (fun _ i _ => xs.length - (intOf i).toNat)
  case atStart => exact ⟨0, Nat.zero_le _, rfl, rfl, x1⟩
  case round =>
    obtain ⟨k, hk, rfl, rfl, hx⟩ := hrel
    by_cases hlt : k < xs.length
    · rcases g1 with g1 | ⟨b1, o1, rfl, hb1, g1⟩
      · omega
      have e1 : wr.cell? ⟨b1, o1 + k * 2, none⟩ = some (.string xs[k].name) := (hx.cell b1 _ hb1).trans (g1 _ _ (leaf_c0 xs k hlt))
      have e2 : wr.cell? ⟨b1, o1 + k * 2 + 1, none⟩ = some (.string xs[k].value) := (hx.cell b1 _ hb1).trans (g1 _ _ (leaf_c1 xs k hlt))
      have l1 : b1 < wr.heap.size := Nat.lt_of_lt_of_le hb1 hx.size
      obtain ⟨s1, s2⟩ := HS.out.2 xs[k] (List.getElem_mem hlt)
      have z0 := leavesUpto_size HS.out k hk
      have z1 := varT_size xs[k].name.size
      have z2 := varT_size xs[k].value.size
      have hsucc := leavesUpto_succ xs k hlt
      have HU := Lib.hid hsucc
      clear hsucc g1
      have a1 : ¬ (9223372036854775807 < (leavesUpto xs k).size + (varT xs[k].name.size).size) := by omega
      have a2 : ¬ (9223372036854775807 < (leavesUpto xs k).size + (varT xs[k].name.size).size + xs[k].name.size) := by omega
      have a3 : ¬ (9223372036854775807 < (leavesUpto xs k).size + (varT xs[k].name.size).size + xs[k].name.size + (varT xs[k].value.size).size) := by omega
      have a4 : ¬ (9223372036854775807 < (leavesUpto xs k).size + (varT xs[k].name.size).size + xs[k].name.size + (varT xs[k].value.size).size + xs[k].value.size) := by omega
      have m1 : xs[k].name.size ≤ 1099511627776 := by omega
      have m2 : xs[k].value.size ≤ 1099511627776 := by omega
      clear z0 z1 z2
      go_wp2_with fail
      go_region_held3 (fun W => W.cell? ⟨b1, o1 + k * 2, none⟩ = some (.string xs[k].name) ∧ W.cell? ⟨b1, o1 + k * 2 + 1, none⟩ = some (.string xs[k].value)) (first | exact ⟨e1, e2⟩ | exact ⟨(ya.cell _ _ l1).trans e1, (ya.cell _ _ l1).trans e2⟩) ((go_at_call 49; refine (spec_l01Var _ _ (by first | exact m1 | exact m2)).mono ?_; rintro e wa ⟨rfl, xa⟩; have ya : Ext wr wa := (by repeat (first | (with_reducible first | exact Ext.refl _ | assumption | apply Ext.alloc | apply Ext.drew | apply Ext.drewN | refine Ext.setCell ?_ ?_ _ | refine Ext.trans ?_ (by assumption)) | (show _ ≤ _; first | omega | (dsimp only; omega) | (simp; done) | (simp; omega))))))
      all_goals
        go_wp2
        go_roundw
        case rel => exact ⟨k + 1, by omega, by go_num, by rw [HU.out]; simp only [leafT, ByteArray.append_assoc], (by repeat (first | (with_reducible first | exact Ext.refl _ | assumption | apply Ext.alloc | apply Ext.drew | apply Ext.drewN | refine Ext.setCell ?_ ?_ _ | refine Ext.trans ?_ (by assumption)) | (show _ ≤ _; first | omega | (dsimp only; omega) | (simp; done) | (simp; omega))))⟩
        case measure => simp [intOf]; omega
    · have hkn : k = xs.length := by omega
      subst hkn
      clear g1
      go_wp2
      go_ret
      exact ⟨rfl, hx⟩
end Go.Proofs.Ytliebkhfddmhjaa
namespace Go.Proofs.Ytliebkhfddmhjaa
open Go.RowKit

def leavesTx (xs : List Leaf) : ByteArray := if leavesOk xs = true then leavesT xs else ⟨#[]⟩

set_option maxHeartbeats 400000 in
theorem spec_LeavesText (v : Value) (xs : List Leaf) (w : World) (h : Lvs w v xs) (hs : LeafFit xs) :
    Calls Try.prog 81 #[v] w fun e w' => e = .returned (.tuple #[.string (leavesTx xs), .bool (leavesOk xs)]) ∧ Ext w w' := by
  obtain ⟨a, c, rfl⟩ := h.form
  by_cases hk : leavesOk xs = true
  · have hsm := leavesOk_LeafSmall hk
    have r : leavesTx xs = leavesT xs := by simp [leavesTx, hk]
    have HK := Lib.hid hk
    have R := Lib.hid r
    clear hk r
    go_enter Try.func81, Try.ntmps81
    go_wp2_with (go_at_call 101; refine (spec_LeavesOk _ xs _ (h.ext (by repeat (first | (with_reducible first | exact Ext.refl _ | assumption | apply Ext.alloc | apply Ext.drew | apply Ext.drewN | refine Ext.setCell ?_ ?_ _ | refine Ext.trans ?_ (by assumption)) | (show _ ≤ _; first | omega | (dsimp only; omega) | (simp; done) | (simp; omega))))) hs).mono ?_; rw [HK.out]; rintro e w1 ⟨rfl, x1⟩)
    refine (spec_l09Text _ xs _ (h.ext (by repeat (first | (with_reducible first | exact Ext.refl _ | assumption | apply Ext.alloc | apply Ext.drew | apply Ext.drewN | refine Ext.setCell ?_ ?_ _ | refine Ext.trans ?_ (by assumption)) | (show _ ≤ _; first | omega | (dsimp only; omega) | (simp; done) | (simp; omega))))) hsm).mono ?_
    rintro e w2 ⟨rfl, x2⟩
    go_wp2
    go_ret2
    exact ⟨ret_sb R.out.symm HK.out.symm, (by repeat (first | (with_reducible first | exact Ext.refl _ | assumption | apply Ext.alloc | apply Ext.drew | apply Ext.drewN | refine Ext.setCell ?_ ?_ _ | refine Ext.trans ?_ (by assumption)) | (show _ ≤ _; first | omega | (dsimp only; omega) | (simp; done) | (simp; omega))))⟩
  · have hk' : leavesOk xs = false := by simpa using hk
    have r : leavesTx xs = ⟨#[]⟩ := by simp [leavesTx, hk']
    have HK := Lib.hid hk'
    have R := Lib.hid r
    clear hk hk' r
    go_enter Try.func81, Try.ntmps81
    go_wp2_with (go_at_call 101; refine (spec_LeavesOk _ xs _ (h.ext (by repeat (first | (with_reducible first | exact Ext.refl _ | assumption | apply Ext.alloc | apply Ext.drew | apply Ext.drewN | refine Ext.setCell ?_ ?_ _ | refine Ext.trans ?_ (by assumption)) | (show _ ≤ _; first | omega | (dsimp only; omega) | (simp; done) | (simp; omega))))) hs).mono ?_; rw [HK.out]; rintro e w1 ⟨rfl, x1⟩)
    go_ret2
    exact ⟨ret_sb R.out.symm HK.out.symm, (by repeat (first | (with_reducible first | exact Ext.refl _ | assumption | apply Ext.alloc | apply Ext.drew | apply Ext.drewN | refine Ext.setCell ?_ ?_ _ | refine Ext.trans ?_ (by assumption)) | (show _ ≤ _; first | omega | (dsimp only; omega) | (simp; done) | (simp; omega))))⟩

end Go.Proofs.Ytliebkhfddmhjaa
namespace Go.Proofs.Ytliebkhfddmhjaa
open Go.RowKit

def proofWell (xs : List Leaf) (ss : List ByteArray) (wd : Int) : Bool := leavesOk xs && (decide (ss.length ≤ 8) && (inB wd 1 32 && wide ss wd))
theorem wide_small {ss : List ByteArray} {wd : Int} (h1 : ss.length ≤ 1000) (h2 : inB wd 1 32 = true) (h3 : wide ss wd = true) : StrSmall ss := by
  refine ⟨h1, fun s hs => ?_⟩
  rw [inB_true] at h2
  rw [wide, List.all_eq_true] at h3
  have := of_decide_eq_true (h3 s hs)
  omega
theorem proofWell_cases (xs : List Leaf) (ss : List ByteArray) (wd : Int) :
    (proofWell xs ss wd = false ∧ leavesOk xs = false) ∨ (proofWell xs ss wd = false ∧ leavesOk xs = true ∧ 8 < ss.length) ∨ (proofWell xs ss wd = false ∧ leavesOk xs = true ∧ ss.length ≤ 8 ∧ inB wd 1 32 = false) ∨ (proofWell xs ss wd = false ∧ leavesOk xs = true ∧ ss.length ≤ 8 ∧ inB wd 1 32 = true ∧ wide ss wd = false) ∨ (proofWell xs ss wd = true ∧ leavesOk xs = true ∧ ss.length ≤ 8 ∧ inB wd 1 32 = true ∧ wide ss wd = true) := by
  unfold proofWell
  by_cases h2 : ss.length ≤ 8
  · cases leavesOk xs <;> cases inB wd 1 32 <;> cases wide ss wd <;> simp [h2]
  · cases leavesOk xs <;> simp [h2]; omega
end Go.Proofs.Ytliebkhfddmhjaa
namespace Go.Proofs.Ytliebkhfddmhjaa
open Go.RowKit

/-- what is left of a bound behind two sizes -/
def szp (left : Int) (n m : Nat) : Int := if szr left n < 0 then -1 else szr (szr left n) m
theorem szp_neg {left : Int} {n m : Nat} (h : szr left n = -1) : szp left n m = -1 := by simp [szp, h]
theorem szp_pos {left z : Int} {n m : Nat} (h : szr left n = z) (hz : 0 ≤ z) : szp left n m = szr z m := by rw [szp, h, if_neg (by omega)]
theorem szp_cases (n m : Nat) : (szp 1048576 n m = -1) ∨ ∃ z : Int, szp 1048576 n m = z ∧ 0 ≤ z ∧ n ≤ 1048576 ∧ m ≤ 1048576 := by
  by_cases h : 1048576 < n
  · exact Or.inl (szp_neg (by simp only [szr]; rw [if_pos (by omega)]))
  · have hz : szr 1048576 n = 1048576 - n := by simp only [szr]; rw [if_neg (by omega)]
    by_cases h2 : 1048576 - n < m
    · exact Or.inl (by rw [szp_pos hz (by omega), szr, if_pos (by omega)])
    · exact Or.inr ⟨_, szp_pos hz (by omega), by rw [szr, if_neg (by omega)]; omega, by omega, by omega⟩

set_option maxHeartbeats 400000 in
theorem laws_szProof (v u : Value) (xs : List Leaf) (ss : List ByteArray) (left : Int) (w : World) (h : Lvs w v xs) (hf : LeafFit xs) (hu : Strs w u ss) (hs : ∀ s ∈ ss, s.size ≤ maxLen) (hl : 0 ≤ left ∧ left ≤ 1048576) :
    Calls Try.prog 43 #[.agg #[v, u], .int .i64 left] w fun e w' => e = .returned (.int .i64 (szp left (xs.length + leafBytes xs) (ss.length + sizes ss))) ∧ Ext w w' := by
  obtain ⟨a, c, rfl⟩ := h.form
  obtain ⟨b, d, rfl⟩ := hu.form
  have hcase : szr left (xs.length + leafBytes xs) = -1 ∨ ∃ z : Int, szr left (xs.length + leafBytes xs) = z ∧ 0 ≤ z ∧ z ≤ 1048576 := by
    simp only [szr]; split
    · exact Or.inl rfl
    · exact Or.inr ⟨_, rfl, by omega, by omega⟩
  rcases hcase with hz | ⟨z, hz, hz0, hz1⟩
  · have HZ := Lib.hid hz
    have HR := Lib.hid (szp_neg (m := ss.length + sizes ss) hz)
    clear hz
    go_enter Try.func43, Try.ntmps43
    go_wp2_with (go_at_call 77; refine (laws_szLeafS _ xs _ _ (h.ext (by repeat (first | (with_reducible first | exact Ext.refl _ | assumption | apply Ext.alloc | apply Ext.drew | apply Ext.drewN | refine Ext.setCell ?_ ?_ _ | refine Ext.trans ?_ (by assumption)) | (show _ ≤ _; first | omega | (dsimp only; omega) | (simp; done) | (simp; omega))))) hl hf).mono ?_; rw [HZ.out]; rintro e w1 ⟨rfl, x1⟩)
    go_ret
    exact ⟨ret_int HR.out.symm, (by repeat (first | (with_reducible first | exact Ext.refl _ | assumption | apply Ext.alloc | apply Ext.drew | apply Ext.drewN | refine Ext.setCell ?_ ?_ _ | refine Ext.trans ?_ (by assumption)) | (show _ ≤ _; first | omega | (dsimp only; omega) | (simp; done) | (simp; omega))))⟩
  · have HZ := Lib.hid hz
    have hr := szp_pos (m := ss.length + sizes ss) hz hz0
    have hcase2 : szr z (ss.length + sizes ss) = -1 ∨ 0 ≤ szr z (ss.length + sizes ss) := by simp only [szr]; split <;> omega
    generalize hy : szr z (ss.length + sizes ss) = y at *
    have HY := Lib.hid hy
    have HR := Lib.hid hr
    clear hz hr hy
    rcases hcase2 with rfl | hcase2
    all_goals
      go_enter Try.func43, Try.ntmps43
      go_wp2_with (go_at_call 77; refine (laws_szLeafS _ xs _ _ (h.ext (by repeat (first | (with_reducible first | exact Ext.refl _ | assumption | apply Ext.alloc | apply Ext.drew | apply Ext.drewN | refine Ext.setCell ?_ ?_ _ | refine Ext.trans ?_ (by assumption)) | (show _ ≤ _; first | omega | (dsimp only; omega) | (simp; done) | (simp; omega))))) hl hf).mono ?_; rw [HZ.out]; rintro e w1 ⟨rfl, x1⟩; have E_x1 := Old.of x1; (repeat (first | (replace E_x1 := Old.undrew E_x1) | (replace E_x1 := Old.undrewN E_x1))); have c_E_x1 := Old.cell E_x1; have f_E_x1 := Old.frozen E_x1; have z_E_x1 := Old.size E_x1; try simp only [World.size_alloc] at c_E_x1 f_E_x1 z_E_x1; try have l_E_x1 := Nat.lt_of_succ_le z_E_x1; try have m_E_x1 := Nat.lt_of_succ_lt l_E_x1; try have n_E_x1 := Nat.lt_of_succ_lt m_E_x1)
      go_wp2_with (go_at_call 44; refine (laws_szStringS _ ss _ _ (hu.ext (by repeat (first | (with_reducible first | exact Ext.refl _ | assumption | apply Ext.alloc | apply Ext.drew | apply Ext.drewN | refine Ext.setCell ?_ ?_ _ | refine Ext.trans ?_ (by assumption)) | (show _ ≤ _; first | omega | (dsimp only; omega) | (simp; done) | (simp; omega))))) ⟨hz0, hz1⟩ hs).mono ?_; rw [HY.out]; rintro e w' ⟨rfl, rfl⟩)
      go_ret
      exact ⟨ret_int HR.out.symm, (by repeat (first | (with_reducible first | exact Ext.refl _ | assumption | apply Ext.alloc | apply Ext.drew | apply Ext.drewN | refine Ext.setCell ?_ ?_ _ | refine Ext.trans ?_ (by assumption)) | (show _ ≤ _; first | omega | (dsimp only; omega) | (simp; done) | (simp; omega))))⟩

set_option maxHeartbeats 800000 in
theorem laws_toProof (v u : Value) (xs : List Leaf) (ss : List ByteArray) (w : World) (h : Lvs w v xs) (hu : Strs w u ss) (hb : xs.length ≤ 1099511627776) (hc : ss.length ≤ 1099511627776) :
    Calls Try.prog 52 #[.agg #[v, u]] w fun e w' => ∃ a c b d, e = .returned (.agg #[.slice a xs.length c, .slice b ss.length d]) ∧ OwnLvs w' w.heap.size (.slice a xs.length c) xs ∧ OwnStrs w' w.heap.size (.slice b ss.length d) ss ∧ Ext w w' := by
  obtain ⟨a, c, rfl⟩ := h.form
  obtain ⟨b, d, rfl⟩ := hu.form
  go_enter Try.func52, Try.ntmps52
  go_wp2_with fail
  refine (laws_toLeafS _ xs _ (h.ext (by repeat (first | (with_reducible first | exact Ext.refl _ | assumption | apply Ext.alloc | apply Ext.drew | apply Ext.drewN | refine Ext.setCell ?_ ?_ _ | refine Ext.trans ?_ (by assumption)) | (show _ ≤ _; first | omega | (dsimp only; omega) | (simp; done) | (simp; omega))))) hb).mono ?_
  rintro e w1 ⟨a1, c1, rfl, o1, x1⟩
  have hc1 := x1.cell
  have hf1 := x1.frozen
  have hz1 := x1.size
  simp only [World.size_alloc] at hz1 hc1 hf1
  have O1 := Lib.hid o1
  clear o1
  go_wp2_with fail
  refine (laws_toStringS _ ss _ (hu.ext (by repeat (first | (with_reducible first | exact Ext.refl _ | assumption | apply Ext.alloc | apply Ext.drew | apply Ext.drewN | refine Ext.setCell ?_ ?_ _ | refine Ext.trans ?_ (by assumption)) | (show _ ≤ _; first | omega | (dsimp only; omega) | (simp; done) | (simp; omega))))) hc).mono ?_
  rintro e w2 ⟨a2, c2, rfl, o2, x2⟩
  have hc2 := x2.cell
  have hf2 := x2.frozen
  have hz2 := x2.size
  simp only [World.size_setCell] at hz2 hc2 hf2
  have l1 : w.heap.size + 1 + 1 < w1.heap.size := by omega
  have l2 : w.heap.size + 1 < w1.heap.size := by omega
  have O2 := Lib.hid o2
  clear o2
  go_wp2
  refine bodyPost_ret (v := .agg #[.slice a1 xs.length c1, .slice a2 ss.length c2]) (by simp [results, Try.results52, go_sem, hc1, hc2, l2]) rfl ⟨_, _, _, _, rfl, ?_, ?_, (by repeat (first | (with_reducible first | exact Ext.refl _ | assumption | apply Ext.alloc | apply Ext.drew | apply Ext.drewN | refine Ext.setCell ?_ ?_ _ | refine Ext.trans ?_ (by assumption)) | (show _ ≤ _; first | omega | (dsimp only; omega) | (simp; done) | (simp; omega))))⟩
  · have ho := O1.out
    clear hc1 hf1 hc2 hf2 O1 O2
    simp only [World.size_alloc] at ho
    have ho2 : OwnLvs w2 (w.heap.size + 1 + 1 + 1) (.slice a1 xs.length c1) xs := own_ext (own_below ho (by dsimp only; omega)) x2
    clear ho
    exact (by show World.ownsRow _ _ _ _ _ _ _; apply own_mono; (repeat (with_reducible first | apply own_below | apply own_alloc | apply own_drew | apply own_drewN | refine own_ext ?_ (by assumption))); exact ho2; all_goals (first | omega | (dsimp only; omega) | (simp; done) | (simp; omega)))
  · have ho := O2.out
    clear hc1 hf1 hc2 hf2 O1 O2
    simp only [World.size_setCell] at ho
    exact (by show World.ownsRow _ _ _ _ _ _ _; apply own_mono; (repeat (with_reducible first | apply own_below | apply own_alloc | apply own_drew | apply own_drewN | refine own_ext ?_ (by assumption))); exact ho; all_goals (first | omega | (dsimp only; omega) | (simp; done) | (simp; omega)))

set_option maxHeartbeats 400000 in
theorem laws_eqProof (v1 u1 v2 u2 : Value) (xs ys : List Leaf) (ss ts : List ByteArray) (w : World) (h1 : Lvs w v1 xs) (g1 : Strs w u1 ss) (h2 : Lvs w v2 ys) (g2 : Strs w u2 ts) :
    Calls Try.prog 63 #[.agg #[v1, u1], .agg #[v2, u2]] w fun e w' => e = .returned (.bool (decide (xs = ys) && decide (ss = ts))) ∧ Ext w w' := by
  obtain ⟨a1, c1, rfl⟩ := h1.form
  obtain ⟨a2, c2, rfl⟩ := h2.form
  obtain ⟨a3, c3, rfl⟩ := g1.form
  obtain ⟨a4, c4, rfl⟩ := g2.form
  go_enter Try.func63, Try.ntmps63
  go_wp2_with fail
  refine (laws_eqLeafS _ _ xs ys _ (h1.ext (by repeat (first | (with_reducible first | exact Ext.refl _ | assumption | apply Ext.alloc | apply Ext.drew | apply Ext.drewN | refine Ext.setCell ?_ ?_ _ | refine Ext.trans ?_ (by assumption)) | (show _ ≤ _; first | omega | (dsimp only; omega) | (simp; done) | (simp; omega))))) (h2.ext (by repeat (first | (with_reducible first | exact Ext.refl _ | assumption | apply Ext.alloc | apply Ext.drew | apply Ext.drewN | refine Ext.setCell ?_ ?_ _ | refine Ext.trans ?_ (by assumption)) | (show _ ≤ _; first | omega | (dsimp only; omega) | (simp; done) | (simp; omega)))))).mono ?_
  rintro e w1 ⟨rfl, x1⟩
  have hc := x1.cell
  have hz := x1.size
  simp only [World.size_alloc] at hz hc
  have l0 : w.heap.size + 1 < w1.heap.size := by omega
  have l1 : w.heap.size < w1.heap.size := by omega
  by_cases hq : xs = ys
  · have hq' : decide (xs = ys) = true := decide_eq_true hq
    have HQ := Lib.hid hq
    clear hq
    go_wp2_with (go_at_call 64; refine (laws_eqStringS _ _ ss ts _ (g1.ext (by repeat (first | (with_reducible first | exact Ext.refl _ | assumption | apply Ext.alloc | apply Ext.drew | apply Ext.drewN | refine Ext.setCell ?_ ?_ _ | refine Ext.trans ?_ (by assumption)) | (show _ ≤ _; first | omega | (dsimp only; omega) | (simp; done) | (simp; omega))))) (g2.ext (by repeat (first | (with_reducible first | exact Ext.refl _ | assumption | apply Ext.alloc | apply Ext.drew | apply Ext.drewN | refine Ext.setCell ?_ ?_ _ | refine Ext.trans ?_ (by assumption)) | (show _ ≤ _; first | omega | (dsimp only; omega) | (simp; done) | (simp; omega)))))).mono ?_; rintro e w2 ⟨rfl, x2⟩)
    all_goals go_ret
    all_goals refine ⟨ret_bool ?_, (by repeat (first | (with_reducible first | exact Ext.refl _ | assumption | apply Ext.alloc | apply Ext.drew | apply Ext.drewN | refine Ext.setCell ?_ ?_ _ | refine Ext.trans ?_ (by assumption)) | (show _ ≤ _; first | omega | (dsimp only; omega) | (simp; done) | (simp; omega))))⟩
    all_goals simp_all
  · have hq' : decide (xs = ys) = false := decide_eq_false hq
    have HQ := Lib.hid hq
    clear hq
    go_wp2
    go_ret
    refine ⟨ret_bool ?_, (by repeat (first | (with_reducible first | exact Ext.refl _ | assumption | apply Ext.alloc | apply Ext.drew | apply Ext.drewN | refine Ext.setCell ?_ ?_ _ | refine Ext.trans ?_ (by assumption)) | (show _ ≤ _; first | omega | (dsimp only; omega) | (simp; done) | (simp; omega))))⟩
    simp_all

end Go.Proofs.Ytliebkhfddmhjaa
