/- Cla, LSe in one text. -/
import Derived.Test.YtliebkhfddmhjaaDoorLkX
import Derived.Test.YtliebkhfddmhjaaDoorSm
import Derived.Test.YtliebkhfddmhjaaDoorDSlA
import Derived.Test.YtliebkhfddmhjaaDoorReA
import Derived.Test.YtliebkhfddmhjaaDoorSeal
import Derived.Test.YtliebkhfddmhjaaDoorStampI
import Derived.Test.YtliebkhfddmhjaaDoorHHash
import Derived.Test.YtliebkhfddmhjaaDoorCurA
import Derived.Test.YtliebkhfddmhjaaDoorLftA
namespace Go.Proofs.YtliebkhfddmhjaaDoor
open Go.RowKit

theorem clN_eq {a b : List ByteArray} {wd : Int} {k : Nat} (h : a.getD k ⟨#[]⟩ = b.getD k ⟨#[]⟩) : clN a b wd (k + 1) = clN a b wd k := by rw [clN, if_pos h]
theorem clN_ne {a b : List ByteArray} {wd : Int} {k : Nat} (h : ¬ a.getD k ⟨#[]⟩ = b.getD k ⟨#[]⟩) : clN a b wd (k + 1) = decide (cutT (a.getD k ⟨#[]⟩) wd = cutT (b.getD k ⟨#[]⟩) wd) := by rw [clN, if_neg h]
def twN (s : SigV) (x y : Int) (k : Nat) : Bool := (List.range k).any fun j : Nat => decide (bitT x j ≠ bitT y j) && decide (lkH (s.op.getD j ⟨#[]⟩) = s.sh.getD j ⟨#[]⟩)
theorem twN_succ (s : SigV) (x y : Int) (k : Nat) : twN s x y (k + 1) = (twN s x y k || (decide (bitT x k ≠ bitT y k) && decide (lkH (s.op.getD k ⟨#[]⟩) = s.sh.getD k ⟨#[]⟩))) := by
  rw [twN, List.range_succ, List.any_append, twN]
  simp
theorem twB_hit {s : SigV} {x y : Int} {k : Nat} (hk : k < 8) (h1 : bitT x k ≠ bitT y k) (h2 : lkH (s.op.getD k ⟨#[]⟩) = s.sh.getD k ⟨#[]⟩) : twB s x y = true := by
  rw [twB, List.any_eq_true]
  exact ⟨k, List.mem_range.2 hk, by rw [decide_eq_true h1, decide_eq_true h2]; rfl⟩
theorem getD_mem {xs : List ByteArray} {k : Nat} (h : k < xs.length) : xs.getD k ⟨#[]⟩ ∈ xs := by
  rw [List.getD_eq_getElem?_getD, List.getElem?_eq_getElem h]
  exact List.getElem_mem h
set_option maxHeartbeats 1600000 in
theorem laws_clash (v1 v2 : Value) (xs ys : List ByteArray) (wd : Int) (w : World) (h1 : Strs w v1 xs) (h2 : Strs w v2 ys) (hs : ∀ s ∈ xs, s.size ≤ 1073741824) (ht : ∀ s ∈ ys, s.size ≤ 1073741824) :
    Calls Tryd.prog 50 #[v1, v2, .int .i64 wd] w fun e w' => e = .returned (.bool (clB xs ys wd)) ∧ Ext w w' := by
  obtain ⟨a1, c1, rfl⟩ := h1.form
  obtain ⟨a2, c2, rfl⟩ := h2.form
  by_cases hlen : xs.length = ys.length
  case neg =>
    have hb : ((xs.length : Int) != ys.length) = true := by simp; omega
    have R := Lib.hid (show clB xs ys wd = false by rw [clB, if_neg hlen])
    clear hlen
    go_enter Tryd.func50, Tryd.ntmps50
    go_wp2
    go_ret
    exact ⟨ret_bool R.out.symm, Ext.refl _⟩
  have hb : ((xs.length : Int) != ys.length) = false := by simp; omega
  have R := Lib.hid (show clB xs ys wd = clN xs ys wd xs.length by rw [clB, if_pos hlen])
  have hl2 : (ys.length : Int) = xs.length := by omega
  have HLN := Lib.hid hlen
  have HL2 := Lib.hid hl2
  have HX := Lib.hid (fun (k : Nat) (hk : k < xs.length) => (str_cell h1 (by omega)))
  have HY := Lib.hid (fun (k : Nat) (hk : k < ys.length) => (str_cell h2 (by omega)))
  have HS := Lib.hid hs
  have HT := Lib.hid ht
  have hm : xs.length ≤ maxLen := by obtain ⟨-, a9, c9, he, hc9, hm9, -⟩ := h1; injection he with e1 e2 e3; omega
  unfold maxLen at hm
  clear hlen hl2 hs ht h1 h2
  go_enter Tryd.func50, Tryd.ntmps50
  go_wp2
  go_loopw [7] (fun i wr => ∃ k : Nat, k ≤ xs.length ∧ i = .int .i64 ((k : Int) - 1) ∧ clN xs ys wd xs.length = clN xs ys wd k ∧ Ext w wr) (fun i _ => (intOf i + 1).toNat)
  case atStart => exact ⟨xs.length, Nat.le_refl _, rfl, rfl, Ext.refl _⟩
  case round =>
    obtain ⟨k, hk, rfl, hcl, X⟩ := hrel
    have HC := Lib.hid hcl
    clear hcl
    cases k with
    | zero =>
      have R2 := Lib.hid (show clB xs ys wd = false from R.out.trans HC.out)
      go_wp2
      go_ret
      exact ⟨ret_bool R2.out.symm, X⟩
    | succ k =>
      have e1 : (((k + 1 : Nat) : Int) - 1) = (k : Int) := by omega
      rw [e1]
      clear e1
      have hkx : k < xs.length := by omega
      have hky : k < ys.length := by have := HLN.out; omega
      obtain ⟨bx, ox, rfl, lx, cx⟩ := HX.out k hkx
      obtain ⟨by_, oy, rfl, ly, cy⟩ := HY.out k hky
      have d1 := (X.cell _ _ lx).trans (cx k hkx)
      have d2 := (X.cell _ _ ly).trans (cy k hky)
      have j0 : (0 : Int) ≤ (k : Int) := by omega
      have j1 : (k : Int) < xs.length := by omega
      have j2 : (k : Int) < ys.length := by have := HL2.out; omega
      have zx := HS.out _ (getD_mem hkx)
      have zy := HT.out _ (getD_mem hky)
      have lxr := Nat.lt_of_lt_of_le lx X.size
      have lyr := Nat.lt_of_lt_of_le ly X.size
      clear cx cy
      by_cases hq : xs.getD k ⟨#[]⟩ = ys.getD k ⟨#[]⟩
      · have HE := Lib.hid (clN_eq (wd := wd) hq)
        rw [hq] at d1
        have hqb : ((ys.getD k ⟨#[]⟩).toList == (ys.getD k ⟨#[]⟩).toList) = true := by simp
        have hqc : ((ys.getD k ⟨#[]⟩).toList != (ys.getD k ⟨#[]⟩).toList) = false := by simp
        generalize ys.getD k ⟨#[]⟩ = b at *
        clear hq zx
        go_wp2
        go_quiet (fail)
        go_wp2
        go_roundw
        case rel => exact ⟨k, by omega, rfl, HC.out.trans HE.out, (by repeat (first | (with_reducible first | exact Ext.refl _ | assumption | apply Ext.alloc | apply Ext.drew | apply Ext.drewN | refine Ext.setCell ?_ ?_ _ | refine Ext.trans ?_ (by assumption)) | (show _ ≤ _; first | omega | (dsimp only; omega) | (simp; done) | (simp; omega))))⟩
        case measure => simp [intOf]
      · have HE := Lib.hid (clN_ne (wd := wd) hq)
        have hqb : ((xs.getD k ⟨#[]⟩).toList == (ys.getD k ⟨#[]⟩).toList) = false := by rw [toList_beq]; exact decide_eq_false hq
        have hqc : ((xs.getD k ⟨#[]⟩).toList != (ys.getD k ⟨#[]⟩).toList) = true := by simp only [bne, hqb]; rfl
        generalize xs.getD k ⟨#[]⟩ = a at *
        generalize ys.getD k ⟨#[]⟩ = b at *
        clear hq
        go_wp2
        go_quiet (fail)
        go_wp2_with fail
        have xq : Ext wr (wr.drewN nq) := (Ext.refl wr).drewN nq
        replace X := X.trans xq
        replace d1 := (xq.cell _ _ lxr).trans d1
        replace d2 := (xq.cell _ _ lyr).trans d2
        replace lxr := Nat.lt_of_lt_of_le lxr xq.size
        replace lyr := Nat.lt_of_lt_of_le lyr xq.size
        generalize wr.drewN nq = w3 at *
        clear xq hqb hqc
        refine wp_region_held_drew (S := (fun W => W.cell? ⟨bx, ox + k, none⟩ = some (.string a) ∧ W.cell? ⟨by_, oy + k, none⟩ = some (.string b))) (by kernel_rfl) (by exact ⟨d1, d2⟩) (fun hHeld => ?_)
        have xd : Ext w3 w3.drew := (Ext.refl w3).drew
        replace X := X.trans xd
        replace d1 := ((Ext.cell xd) _ _ lxr).trans d1
        replace d2 := ((Ext.cell xd) _ _ lyr).trans d2
        replace lxr := Nat.lt_of_lt_of_le lxr (Ext.size xd)
        replace lyr := Nat.lt_of_lt_of_le lyr (Ext.size xd)
        generalize w3.drew = w4 at *
        (refine wpAnyH_take (i := 0) (v := ?_) rfl (by kernel_rfl) (by kernel_rfl) (by kernel_rfl) (fun _ _ _ h => h) (Or.inl ⟨by rfl, ?_⟩) (by assumption) ?_; rotate_left; focus (intro w hSw; (try dsimp only at hSw); (try simp only [List.getElem_toArray, List.getElem_cons_zero]); go_simp; try with_reducible rfl)); (try simp only [List.getElem_toArray, List.getElem_cons_zero]); (try simp only [Act.put, List.setIfInBounds_toArray, List.set_cons_zero, List.set_cons_succ])
        (refine wpAnyH_take (i := 1) (v := ?_) rfl (by kernel_rfl) (by kernel_rfl) (by kernel_rfl) (fun _ _ _ h => h) (Or.inl ⟨by rfl, ?_⟩) (by assumption) ?_; rotate_left; focus (intro w hSw; (try dsimp only at hSw); (try simp only [List.getElem_toArray, List.getElem_cons_zero, List.getElem_cons_succ]); go_simp; try with_reducible rfl)); (try simp only [List.getElem_toArray, List.getElem_cons_zero, List.getElem_cons_succ]); (try simp only [Act.put, List.setIfInBounds_toArray, List.set_cons_zero, List.set_cons_succ])
        (refine wpAnyH_take (i := 2) (v := ?_) rfl (by kernel_rfl) (by kernel_rfl) (by kernel_rfl) (fun _ _ _ h => h) (Or.inl ⟨by rfl, ?_⟩) (by assumption) ?_; rotate_left; focus (intro w hSw; (try dsimp only at hSw); (try simp only [List.getElem_toArray, List.getElem_cons_zero, List.getElem_cons_succ]); go_simp; try with_reducible rfl)); (try simp only [List.getElem_toArray, List.getElem_cons_zero, List.getElem_cons_succ]); (try simp only [Act.put, List.setIfInBounds_toArray, List.set_cons_zero, List.set_cons_succ])
        (refine wpAnyH_take (i := 3) (v := ?_) rfl (by kernel_rfl) (by kernel_rfl) (by kernel_rfl) (fun _ _ _ h => h) (Or.inl ⟨by rfl, ?_⟩) (by assumption) ?_; rotate_left; focus (intro w hSw; (try dsimp only at hSw); (try simp only [List.getElem_toArray, List.getElem_cons_zero, List.getElem_cons_succ]); go_simp; try with_reducible rfl)); (try simp only [List.getElem_toArray, List.getElem_cons_zero, List.getElem_cons_succ]); (try simp only [Act.put, List.setIfInBounds_toArray, List.set_cons_zero, List.set_cons_succ])
        (refine wpAnyH_take (i := 4) (v := ?_) rfl (by kernel_rfl) (by kernel_rfl) (by kernel_rfl) (fun _ _ _ h => h) (Or.inl ⟨by rfl, ?_⟩) (by assumption) ?_; rotate_left; focus (intro w hSw; (try dsimp only at hSw); (try simp only [List.getElem_toArray, List.getElem_cons_zero, List.getElem_cons_succ]); go_simp; try with_reducible rfl)); (try simp only [List.getElem_toArray, List.getElem_cons_zero, List.getElem_cons_succ]); (try simp only [Act.put, List.setIfInBounds_toArray, List.set_cons_zero, List.set_cons_succ])
        (refine wpAnyH_take (i := 6) (v := ?_) rfl (by kernel_rfl) (by kernel_rfl) (by kernel_rfl) (fun _ _ _ h => h) (Or.inl ⟨by rfl, ?_⟩) (by assumption) ?_; rotate_left; focus (intro w hSw; (try dsimp only at hSw); (try simp only [List.getElem_toArray, List.getElem_cons_zero, List.getElem_cons_succ]); go_simp; try with_reducible rfl)); (try simp only [List.getElem_toArray, List.getElem_cons_zero, List.getElem_cons_succ]); (try simp only [Act.put, List.setIfInBounds_toArray, List.set_cons_zero, List.set_cons_succ])
        (refine wpAnyH_take (i := 7) (v := ?_) rfl (by kernel_rfl) (by kernel_rfl) (by kernel_rfl) (fun _ _ _ h => h) (Or.inl ⟨by rfl, ?_⟩) (by assumption) ?_; rotate_left; focus (intro w hSw; (try dsimp only at hSw); (try simp only [List.getElem_toArray, List.getElem_cons_zero, List.getElem_cons_succ]); go_simp; try with_reducible rfl)); (try simp only [List.getElem_toArray, List.getElem_cons_zero, List.getElem_cons_succ]); (try simp only [Act.put, List.setIfInBounds_toArray, List.set_cons_zero, List.set_cons_succ])
        (refine wpAnyH_take (i := 8) (v := ?_) rfl (by kernel_rfl) (by kernel_rfl) (by kernel_rfl) (fun _ _ _ h => h) (Or.inl ⟨by rfl, ?_⟩) (by assumption) ?_; rotate_left; focus (intro w hSw; (try dsimp only at hSw); (try simp only [List.getElem_toArray, List.getElem_cons_zero, List.getElem_cons_succ]); go_simp; try with_reducible rfl)); (try simp only [List.getElem_toArray, List.getElem_cons_zero, List.getElem_cons_succ]); (try simp only [Act.put, List.setIfInBounds_toArray, List.set_cons_zero, List.set_cons_succ])
        (refine wpAnyH_take (i := 9) (v := ?_) rfl (by kernel_rfl) (by kernel_rfl) (by kernel_rfl) (fun _ _ _ h => h) (Or.inl ⟨by rfl, ?_⟩) (by assumption) ?_; rotate_left; focus (intro w hSw; (try dsimp only at hSw); (try simp only [List.getElem_toArray, List.getElem_cons_zero, List.getElem_cons_succ]); go_simp; try with_reducible rfl)); (try simp only [List.getElem_toArray, List.getElem_cons_zero, List.getElem_cons_succ]); (try simp only [Act.put, List.setIfInBounds_toArray, List.set_cons_zero, List.set_cons_succ])
        (refine wpAnyH_take (i := 10) (v := ?_) rfl (by kernel_rfl) (by kernel_rfl) (by kernel_rfl) (fun _ _ _ h => h) (Or.inl ⟨by rfl, ?_⟩) (by assumption) ?_; rotate_left; focus (intro w hSw; (try dsimp only at hSw); (try simp only [List.getElem_toArray, List.getElem_cons_zero, List.getElem_cons_succ]); go_simp; try with_reducible rfl)); (try simp only [List.getElem_toArray, List.getElem_cons_zero, List.getElem_cons_succ]); (try simp only [Act.put, List.setIfInBounds_toArray, List.set_cons_zero, List.set_cons_succ])
        (refine wpAnyH_ready (rs := [5]) (by kernel_rfl) (by simp) ?_; refine AllReadyH.cons rfl (fun K hK => ?_) AllReadyH.nil; (try simp only [List.getElem_toArray, List.getElem_cons_zero, List.getElem_cons_succ]))
        go_simp
        go_at_call 37
        refine (spec_CutDigest a wd _ zx).mono ?_
        rintro e w5 ⟨rfl, x5⟩
        replace X := X.trans x5
        replace d1 := ((Ext.cell x5) _ _ lxr).trans d1
        replace d2 := ((Ext.cell x5) _ _ lyr).trans d2
        replace lxr := Nat.lt_of_lt_of_le lxr (Ext.size x5)
        replace lyr := Nat.lt_of_lt_of_le lyr (Ext.size x5)
        (try dsimp only)
        refine hK.out _ _ (by exact ⟨d1, d2⟩) (fun hHeld => ?_)
        clear hK K
        (refine wpAnyH_ready (rs := [11]) (by kernel_rfl) (by simp) ?_; refine AllReadyH.cons rfl (fun K hK => ?_) AllReadyH.nil; (try simp only [List.getElem_toArray, List.getElem_cons_zero, List.getElem_cons_succ]))
        go_simp
        go_at_call 37
        refine (spec_CutDigest b wd _ zy).mono ?_
        rintro e w6 ⟨rfl, x6⟩
        replace X := X.trans x6
        replace d1 := ((Ext.cell x6) _ _ lxr).trans d1
        replace d2 := ((Ext.cell x6) _ _ lyr).trans d2
        replace lxr := Nat.lt_of_lt_of_le lxr (Ext.size x6)
        replace lyr := Nat.lt_of_lt_of_le lyr (Ext.size x6)
        (try dsimp only)
        refine hK.out _ _ (by exact ⟨d1, d2⟩) (fun hHeld => ?_)
        clear hK K
        (refine wpAnyH_take (i := 12) (v := ?_) rfl (by kernel_rfl) (by kernel_rfl) (by kernel_rfl) (fun _ _ _ h => h) (Or.inl ⟨by rfl, ?_⟩) (by assumption) ?_; rotate_left; focus (intro w hSw; (try dsimp only at hSw); (try simp only [List.getElem_toArray, List.getElem_cons_zero, List.getElem_cons_succ]); go_simp; try with_reducible rfl)); (try simp only [List.getElem_toArray, List.getElem_cons_zero, List.getElem_cons_succ]); (try simp only [Act.put, List.setIfInBounds_toArray, List.set_cons_zero, List.set_cons_succ])
        (refine wpAnyH_take (i := 13) (v := ?_) rfl (by kernel_rfl) (by kernel_rfl) (by kernel_rfl) (fun _ _ _ h => h) (Or.inl ⟨by rfl, ?_⟩) (by assumption) ?_; rotate_left; focus (intro w hSw; (try dsimp only at hSw); (try simp only [List.getElem_toArray, List.getElem_cons_zero, List.getElem_cons_succ]); go_simp; try with_reducible rfl)); (try simp only [List.getElem_toArray, List.getElem_cons_zero, List.getElem_cons_succ]); (try simp only [Act.put, List.setIfInBounds_toArray, List.set_cons_zero, List.set_cons_succ])
        refine wpAnyH_done (by kernel_rfl) ?_ _
        go_wp2
        go_ret
        exact ⟨ret_bool (by rw [R.out, HC.out, HE.out, toList_beq]), X⟩
set_option maxRecDepth 100000 in
set_option maxHeartbeats 3200000 in
theorem laws_twins (v1 v2 v3 : Value) (s : SigV) (x y : ByteArray) (w : World) (h1 : Strs w v1 s.op) (h2 : Strs w v2 s.sh) (h3 : Strs w v3 s.si) (hw : sigWell s = true) (hx : x.size ≤ 200) (hy : y.size ≤ 200) :
    Calls Tryd.prog 51 #[.agg #[.int .i64 s.at_, v1, v2, v3], .string x, .string y] w fun e w' => e = .returned (.bool (twB s (sgIdx x) (sgIdx y))) ∧ Ext w w' := by
  obtain ⟨a1, c1, rfl⟩ := h1.form
  obtain ⟨a2, c2, rfl⟩ := h2.form
  obtain ⟨a3, c3, rfl⟩ := h3.form
  obtain ⟨-, ⟨n1, -⟩, ⟨n2, -⟩, -⟩ := sigWell_true hw
  obtain ⟨f1, f2, -⟩ := sigWell_fit hw
  obtain ⟨b1, o1, rfl, l1, e1⟩ := str_cell h1 (by omega)
  obtain ⟨b2, o2, rfl, l2, e2⟩ := str_cell h2 (by omega)
  rw [n1] at e1
  rw [n2] at e2
  have E1 := Lib.hid e1
  have E2 := Lib.hid e2
  have F1 := Lib.hid f1
  have N1 := Lib.hid n1
  have N2 := Lib.hid n2
  have hn1 : (8 : Int) ≤ s.op.length := by omega
  have hn2 : (8 : Int) ≤ s.sh.length := by omega
  clear e1 e2 f1 f2 n1 n2 hw h1 h2 h3
  have X : Ext w (w.alloc (Obj.cells #[.int .i64 s.at_, .slice (some ⟨b1, o1, none⟩) s.op.length c1, .slice (some ⟨b2, o2, none⟩) s.sh.length c2, .slice a3 s.si.length c3] 28)) := (Ext.refl w).alloc _
  have P := Bx.new w #[.int .i64 s.at_, .slice (some ⟨b1, o1, none⟩) s.op.length c1, .slice (some ⟨b2, o2, none⟩) s.sh.length c2, .slice a3 s.si.length c3] 28
  generalize hi1 : sgIdx x = i1 at *
  generalize hi2 : sgIdx y = i2 at *
  have HI1 := Lib.hid hi1
  have HI2 := Lib.hid hi2
  clear hi1 hi2
  go_enter Tryd.func51, Tryd.ntmps51
  go_wp2_with fail
  generalize w.alloc (Obj.cells #[.int .i64 s.at_, .slice (some ⟨b1, o1, none⟩) s.op.length c1, .slice (some ⟨b2, o2, none⟩) s.sh.length c2, .slice a3 s.si.length c3] 28) = W0 at *
  refine (spec_SignBitsOf x _ hx).mono ?_
  rw [HI1.out]
  rintro e w1 ⟨rfl, x1⟩
  replace P := P.ext x1
  replace X := X.trans x1
  go_wp2_with fail
  refine (spec_SignBitsOf y _ hy).mono ?_
  rw [HI2.out]
  rintro e w2 ⟨rfl, x2⟩
  replace P := P.ext x2
  replace X := X.trans x2
  clear x1 x2
  go_wp2
  go_loopw [9] (fun i wr => ∃ k : Nat, k ≤ 8 ∧ i = .int .i64 k ∧ twN s i1 i2 k = false ∧ Bx wr w.heap.size [.int .i64 s.at_, .slice (some ⟨b1, o1, none⟩) s.op.length c1, .slice (some ⟨b2, o2, none⟩) s.sh.length c2, .slice a3 s.si.length c3] ∧ Ext w wr) (fun i _ => 8 - (intOf i).toNat)
  case atStart => exact ⟨0, by omega, rfl, rfl, P, X⟩
  case round =>
    clear P X
    obtain ⟨k, hk, rfl, ht, P, X⟩ := hrel
    have HT := Lib.hid ht
    clear ht
    have q1 := P.2.1 1 _ rfl
    have q2 := P.2.1 2 _ rfl
    by_cases hlt : k < 8
    · have hk8 : (k : Int) < 8 := by omega
      have hi0 : (0 : Int) ≤ k := by omega
      have hi1 : (k : Int) < s.op.length := by omega
      have hi2 : (k : Int) < s.sh.length := by omega
      have d1 := (X.cell _ _ l1).trans (E1.out k hlt)
      have d2 := (X.cell _ _ l2).trans (E2.out k hlt)
      have zo := le_max (getD_le F1.out k) (by omega)
      have HS := Lib.hid (twN_succ s i1 i2 k)
      have HH := Lib.hid (fun h1 h2 => twB_hit (s := s) (x := i1) (y := i2) hlt h1 h2)
      have lb1 := Nat.lt_of_lt_of_le l1 X.size
      have lb2 := Nat.lt_of_lt_of_le l2 X.size
      generalize s.op.getD k ⟨#[]⟩ = o at *
      generalize s.sh.getD k ⟨#[]⟩ = y1 at *
      generalize hb1 : bitT i1 k = v1 at *
      generalize hb2 : bitT i2 k = v2 at *
      have HB1 := Lib.hid hb1
      have HB2 := Lib.hid hb2
      clear hb1 hb2
      go_wp2_with fail
      clear q1 q2
      refine wp_region_held_drew (S := (fun W => W.cell? ⟨w.heap.size, 1, none⟩ = some (.slice (some ⟨b1, o1, none⟩) s.op.length c1) ∧ W.cell? ⟨w.heap.size, 2, none⟩ = some (.slice (some ⟨b2, o2, none⟩) s.sh.length c2) ∧ W.cell? ⟨b1, o1 + k, none⟩ = some (.string o) ∧ W.cell? ⟨b2, o2 + k, none⟩ = some (.string y1))) (by kernel_rfl) (by exact ⟨P.2.1 1 _ rfl, P.2.1 2 _ rfl, d1, d2⟩) (fun hHeld => ?_)
      have xd : Ext wr wr.drew := (Ext.refl wr).drew
      replace P := P.ext xd
      replace X := X.trans xd
      replace d1 := ((Ext.cell xd) _ _ lb1).trans d1
      replace d2 := ((Ext.cell xd) _ _ lb2).trans d2
      replace lb1 := Nat.lt_of_lt_of_le lb1 (Ext.size xd)
      replace lb2 := Nat.lt_of_lt_of_le lb2 (Ext.size xd)
      generalize wr.drew = y0 at *
      by_cases hv : v1 = v2
      · subst hv
        have HN := Lib.hid (show twN s i1 i2 (k + 1) = false by rw [HS.out, HT.out, decide_eq_false (fun h => h rfl)]; rfl)
        (refine wpAnyH_take (i := 0) (v := ?_) rfl (by kernel_rfl) (by kernel_rfl) (by kernel_rfl) (fun _ _ _ h => h) (Or.inl ⟨by rfl, ?_⟩) (by assumption) ?_; rotate_left; focus (intro w hSw; (try dsimp only at hSw); (try simp only [List.getElem_toArray, List.getElem_cons_zero]); go_simp; try with_reducible rfl)); (try simp only [List.getElem_toArray, List.getElem_cons_zero]); (try simp only [Act.put, List.setIfInBounds_toArray, List.set_cons_zero, List.set_cons_succ])
        (refine wpAnyH_take (i := 1) (v := ?_) rfl (by kernel_rfl) (by kernel_rfl) (by kernel_rfl) (fun _ _ _ h => h) (Or.inl ⟨by rfl, ?_⟩) (by assumption) ?_; rotate_left; focus (intro w hSw; (try dsimp only at hSw); (try simp only [List.getElem_toArray, List.getElem_cons_zero, List.getElem_cons_succ]); go_simp; try with_reducible rfl)); (try simp only [List.getElem_toArray, List.getElem_cons_zero, List.getElem_cons_succ]); (try simp only [Act.put, List.setIfInBounds_toArray, List.set_cons_zero, List.set_cons_succ])
        (refine wpAnyH_take (i := 3) (v := ?_) rfl (by kernel_rfl) (by kernel_rfl) (by kernel_rfl) (fun _ _ _ h => h) (Or.inl ⟨by rfl, ?_⟩) (by assumption) ?_; rotate_left; focus (intro w hSw; (try dsimp only at hSw); (try simp only [List.getElem_toArray, List.getElem_cons_zero, List.getElem_cons_succ]); go_simp; try with_reducible rfl)); (try simp only [List.getElem_toArray, List.getElem_cons_zero, List.getElem_cons_succ]); (try simp only [Act.put, List.setIfInBounds_toArray, List.set_cons_zero, List.set_cons_succ])
        (refine wpAnyH_take (i := 4) (v := ?_) rfl (by kernel_rfl) (by kernel_rfl) (by kernel_rfl) (fun _ _ _ h => h) (Or.inl ⟨by rfl, ?_⟩) (by assumption) ?_; rotate_left; focus (intro w hSw; (try dsimp only at hSw); (try simp only [List.getElem_toArray, List.getElem_cons_zero, List.getElem_cons_succ]); go_simp; try with_reducible rfl)); (try simp only [List.getElem_toArray, List.getElem_cons_zero, List.getElem_cons_succ]); (try simp only [Act.put, List.setIfInBounds_toArray, List.set_cons_zero, List.set_cons_succ])
        (refine wpAnyH_ready (rs := [2]) (by kernel_rfl) (by simp) ?_; refine AllReadyH.cons rfl (fun K hK => ?_) AllReadyH.nil; (try simp only [List.getElem_toArray, List.getElem_cons_zero, List.getElem_cons_succ]))
        go_simp
        go_at_call 110
        refine (spec_BitOf i1 k _).mono ?_
        rw [HB1.out]
        rintro e w' ⟨rfl, rfl⟩
        (try dsimp only)
        refine hK.out _ _ (by exact ⟨P.2.1 1 _ rfl, P.2.1 2 _ rfl, d1, d2⟩) (fun hHeld => ?_)
        clear hK K
        (refine wpAnyH_ready (rs := [5]) (by kernel_rfl) (by simp) ?_; refine AllReadyH.cons rfl (fun K hK => ?_) AllReadyH.nil; (try simp only [List.getElem_toArray, List.getElem_cons_zero, List.getElem_cons_succ]))
        go_simp
        go_at_call 110
        refine (spec_BitOf i2 k _).mono ?_
        rw [HB2.out]
        rintro e w' ⟨rfl, rfl⟩
        (try dsimp only)
        refine hK.out _ _ (by exact ⟨P.2.1 1 _ rfl, P.2.1 2 _ rfl, d1, d2⟩) (fun hHeld => ?_)
        clear hK K
        (refine wpAnyH_take (i := 6) (v := .bool false) rfl (by kernel_rfl) (by kernel_rfl) (by kernel_rfl) (fun _ _ _ h => h) (Or.inl ⟨by rfl, ?_⟩) (by assumption) ?_; focus (intro w hSw; (try dsimp only at hSw); (try simp only [List.getElem_toArray, List.getElem_cons_zero, List.getElem_cons_succ]); go_simp; (try simp))); (try simp only [List.getElem_toArray, List.getElem_cons_zero, List.getElem_cons_succ]); (try simp only [Act.put, List.setIfInBounds_toArray, List.set_cons_zero, List.set_cons_succ])
        (refine wpAnyH_take (i := 7) (v := ?_) rfl (by kernel_rfl) (by kernel_rfl) (by kernel_rfl) (fun _ _ _ h => h) (Or.inl ⟨by rfl, ?_⟩) (by assumption) ?_; rotate_left; focus (intro w hSw; (try dsimp only at hSw); (try simp only [List.getElem_toArray, List.getElem_cons_zero, List.getElem_cons_succ]); go_simp; try with_reducible rfl)); (try simp only [List.getElem_toArray, List.getElem_cons_zero, List.getElem_cons_succ]); (try simp only [Act.put, List.setIfInBounds_toArray, List.set_cons_zero, List.set_cons_succ])
        (refine wpAnyH_take (i := 8) rfl (by kernel_rfl) (by kernel_rfl) (by kernel_rfl) (fun _ _ _ h => h) (Or.inr ⟨by rfl, rfl⟩) (by assumption) ?_); (try simp only [List.getElem_toArray, List.getElem_cons_zero, List.getElem_cons_succ]); (try simp only [Act.put, List.setIfInBounds_toArray, List.set_cons_zero, List.set_cons_succ])
        (refine wpAnyH_take (i := 9) rfl (by kernel_rfl) (by kernel_rfl) (by kernel_rfl) (fun _ _ _ h => h) (Or.inr ⟨by rfl, rfl⟩) (by assumption) ?_); (try simp only [List.getElem_toArray, List.getElem_cons_zero, List.getElem_cons_succ]); (try simp only [Act.put, List.setIfInBounds_toArray, List.set_cons_zero, List.set_cons_succ])
        (refine wpAnyH_take (i := 10) rfl (by kernel_rfl) (by kernel_rfl) (by kernel_rfl) (fun _ _ _ h => h) (Or.inr ⟨by rfl, rfl⟩) (by assumption) ?_); (try simp only [List.getElem_toArray, List.getElem_cons_zero, List.getElem_cons_succ]); (try simp only [Act.put, List.setIfInBounds_toArray, List.set_cons_zero, List.set_cons_succ])
        (refine wpAnyH_take (i := 11) rfl (by kernel_rfl) (by kernel_rfl) (by kernel_rfl) (fun _ _ _ h => h) (Or.inr ⟨by rfl, rfl⟩) (by assumption) ?_); (try simp only [List.getElem_toArray, List.getElem_cons_zero, List.getElem_cons_succ]); (try simp only [Act.put, List.setIfInBounds_toArray, List.set_cons_zero, List.set_cons_succ])
        (refine wpAnyH_take (i := 12) rfl (by kernel_rfl) (by kernel_rfl) (by kernel_rfl) (fun _ _ _ h => h) (Or.inr ⟨by rfl, rfl⟩) (by assumption) ?_); (try simp only [List.getElem_toArray, List.getElem_cons_zero, List.getElem_cons_succ]); (try simp only [Act.put, List.setIfInBounds_toArray, List.set_cons_zero, List.set_cons_succ])
        (refine wpAnyH_take (i := 13) rfl (by kernel_rfl) (by kernel_rfl) (by kernel_rfl) (fun _ _ _ h => h) (Or.inr ⟨by rfl, rfl⟩) (by assumption) ?_); (try simp only [List.getElem_toArray, List.getElem_cons_zero, List.getElem_cons_succ]); (try simp only [Act.put, List.setIfInBounds_toArray, List.set_cons_zero, List.set_cons_succ])
        (refine wpAnyH_take (i := 14) rfl (by kernel_rfl) (by kernel_rfl) (by kernel_rfl) (fun _ _ _ h => h) (Or.inr ⟨by rfl, rfl⟩) (by assumption) ?_); (try simp only [List.getElem_toArray, List.getElem_cons_zero, List.getElem_cons_succ]); (try simp only [Act.put, List.setIfInBounds_toArray, List.set_cons_zero, List.set_cons_succ])
        (refine wpAnyH_take (i := 15) rfl (by kernel_rfl) (by kernel_rfl) (by kernel_rfl) (fun _ _ _ h => h) (Or.inr ⟨by rfl, rfl⟩) (by assumption) ?_); (try simp only [List.getElem_toArray, List.getElem_cons_zero, List.getElem_cons_succ]); (try simp only [Act.put, List.setIfInBounds_toArray, List.set_cons_zero, List.set_cons_succ])
        (refine wpAnyH_take (i := 16) rfl (by kernel_rfl) (by kernel_rfl) (by kernel_rfl) (fun _ _ _ h => h) (Or.inr ⟨by rfl, rfl⟩) (by assumption) ?_); (try simp only [List.getElem_toArray, List.getElem_cons_zero, List.getElem_cons_succ]); (try simp only [Act.put, List.setIfInBounds_toArray, List.set_cons_zero, List.set_cons_succ])
        (refine wpAnyH_take (i := 17) rfl (by kernel_rfl) (by kernel_rfl) (by kernel_rfl) (fun _ _ _ h => h) (Or.inr ⟨by rfl, rfl⟩) (by assumption) ?_); (try simp only [List.getElem_toArray, List.getElem_cons_zero, List.getElem_cons_succ]); (try simp only [Act.put, List.setIfInBounds_toArray, List.set_cons_zero, List.set_cons_succ])
        (refine wpAnyH_take (i := 18) rfl (by kernel_rfl) (by kernel_rfl) (by kernel_rfl) (fun _ _ _ h => h) (Or.inr ⟨by rfl, rfl⟩) (by assumption) ?_); (try simp only [List.getElem_toArray, List.getElem_cons_zero, List.getElem_cons_succ]); (try simp only [Act.put, List.setIfInBounds_toArray, List.set_cons_zero, List.set_cons_succ])
        (refine wpAnyH_take (i := 19) rfl (by kernel_rfl) (by kernel_rfl) (by kernel_rfl) (fun _ _ _ h => h) (Or.inr ⟨by rfl, rfl⟩) (by assumption) ?_); (try simp only [List.getElem_toArray, List.getElem_cons_zero, List.getElem_cons_succ]); (try simp only [Act.put, List.setIfInBounds_toArray, List.set_cons_zero, List.set_cons_succ])
        (refine wpAnyH_take (i := 20) (v := ?_) rfl (by kernel_rfl) (by kernel_rfl) (by kernel_rfl) (fun _ _ _ h => h) (Or.inl ⟨by rfl, ?_⟩) (by assumption) ?_; rotate_left; focus (intro w hSw; (try dsimp only at hSw); (try simp only [List.getElem_toArray, List.getElem_cons_zero, List.getElem_cons_succ]); go_simp; try with_reducible rfl)); (try simp only [List.getElem_toArray, List.getElem_cons_zero, List.getElem_cons_succ]); (try simp only [Act.put, List.setIfInBounds_toArray, List.set_cons_zero, List.set_cons_succ])
        refine wpAnyH_done (by kernel_rfl) ?_ _
        go_wp2
        go_roundw
        case rel => exact ⟨k + 1, by omega, by go_num, HN.out, P, X⟩
        case measure => simp [intOf]; omega
      · have HVV := Lib.hid hv
        clear hv
        (refine wpAnyH_take (i := 0) (v := ?_) rfl (by kernel_rfl) (by kernel_rfl) (by kernel_rfl) (fun _ _ _ h => h) (Or.inl ⟨by rfl, ?_⟩) (by assumption) ?_; rotate_left; focus (intro w hSw; (try dsimp only at hSw); (try simp only [List.getElem_toArray, List.getElem_cons_zero]); go_simp; try with_reducible rfl)); (try simp only [List.getElem_toArray, List.getElem_cons_zero]); (try simp only [Act.put, List.setIfInBounds_toArray, List.set_cons_zero, List.set_cons_succ])
        (refine wpAnyH_take (i := 1) (v := ?_) rfl (by kernel_rfl) (by kernel_rfl) (by kernel_rfl) (fun _ _ _ h => h) (Or.inl ⟨by rfl, ?_⟩) (by assumption) ?_; rotate_left; focus (intro w hSw; (try dsimp only at hSw); (try simp only [List.getElem_toArray, List.getElem_cons_zero, List.getElem_cons_succ]); go_simp; try with_reducible rfl)); (try simp only [List.getElem_toArray, List.getElem_cons_zero, List.getElem_cons_succ]); (try simp only [Act.put, List.setIfInBounds_toArray, List.set_cons_zero, List.set_cons_succ])
        (refine wpAnyH_take (i := 3) (v := ?_) rfl (by kernel_rfl) (by kernel_rfl) (by kernel_rfl) (fun _ _ _ h => h) (Or.inl ⟨by rfl, ?_⟩) (by assumption) ?_; rotate_left; focus (intro w hSw; (try dsimp only at hSw); (try simp only [List.getElem_toArray, List.getElem_cons_zero, List.getElem_cons_succ]); go_simp; try with_reducible rfl)); (try simp only [List.getElem_toArray, List.getElem_cons_zero, List.getElem_cons_succ]); (try simp only [Act.put, List.setIfInBounds_toArray, List.set_cons_zero, List.set_cons_succ])
        (refine wpAnyH_take (i := 4) (v := ?_) rfl (by kernel_rfl) (by kernel_rfl) (by kernel_rfl) (fun _ _ _ h => h) (Or.inl ⟨by rfl, ?_⟩) (by assumption) ?_; rotate_left; focus (intro w hSw; (try dsimp only at hSw); (try simp only [List.getElem_toArray, List.getElem_cons_zero, List.getElem_cons_succ]); go_simp; try with_reducible rfl)); (try simp only [List.getElem_toArray, List.getElem_cons_zero, List.getElem_cons_succ]); (try simp only [Act.put, List.setIfInBounds_toArray, List.set_cons_zero, List.set_cons_succ])
        (refine wpAnyH_ready (rs := [2]) (by kernel_rfl) (by simp) ?_; refine AllReadyH.cons rfl (fun K hK => ?_) AllReadyH.nil; (try simp only [List.getElem_toArray, List.getElem_cons_zero, List.getElem_cons_succ]))
        go_simp
        go_at_call 110
        refine (spec_BitOf i1 k _).mono ?_
        rw [HB1.out]
        rintro e w' ⟨rfl, rfl⟩
        (try dsimp only)
        refine hK.out _ _ (by exact ⟨P.2.1 1 _ rfl, P.2.1 2 _ rfl, d1, d2⟩) (fun hHeld => ?_)
        clear hK K
        (refine wpAnyH_ready (rs := [5]) (by kernel_rfl) (by simp) ?_; refine AllReadyH.cons rfl (fun K hK => ?_) AllReadyH.nil; (try simp only [List.getElem_toArray, List.getElem_cons_zero, List.getElem_cons_succ]))
        go_simp
        go_at_call 110
        refine (spec_BitOf i2 k _).mono ?_
        rw [HB2.out]
        rintro e w' ⟨rfl, rfl⟩
        (try dsimp only)
        refine hK.out _ _ (by exact ⟨P.2.1 1 _ rfl, P.2.1 2 _ rfl, d1, d2⟩) (fun hHeld => ?_)
        clear hK K
        (refine wpAnyH_take (i := 6) (v := .bool true) rfl (by kernel_rfl) (by kernel_rfl) (by kernel_rfl) (fun _ _ _ h => h) (Or.inl ⟨by rfl, ?_⟩) (by assumption) ?_; focus (intro w hSw; (try dsimp only at hSw); (try simp only [List.getElem_toArray, List.getElem_cons_zero, List.getElem_cons_succ]); go_simp; (have h := HVV.out; simp [h]))); (try simp only [List.getElem_toArray, List.getElem_cons_zero, List.getElem_cons_succ]); (try simp only [Act.put, List.setIfInBounds_toArray, List.set_cons_zero, List.set_cons_succ])
        (refine wpAnyH_take (i := 7) (v := ?_) rfl (by kernel_rfl) (by kernel_rfl) (by kernel_rfl) (fun _ _ _ h => h) (Or.inl ⟨by rfl, ?_⟩) (by assumption) ?_; rotate_left; focus (intro w hSw; (try dsimp only at hSw); (try simp only [List.getElem_toArray, List.getElem_cons_zero, List.getElem_cons_succ]); go_simp; try with_reducible rfl)); (try simp only [List.getElem_toArray, List.getElem_cons_zero, List.getElem_cons_succ]); (try simp only [Act.put, List.setIfInBounds_toArray, List.set_cons_zero, List.set_cons_succ])
        (refine wpAnyH_take (i := 8) (v := ?_) rfl (by kernel_rfl) (by kernel_rfl) (by kernel_rfl) (fun _ _ _ h => h) (Or.inl ⟨by rfl, ?_⟩) (by assumption) ?_; rotate_left; focus (intro w hSw; (try dsimp only at hSw); (try simp only [List.getElem_toArray, List.getElem_cons_zero, List.getElem_cons_succ]); go_simp; try with_reducible rfl)); (try simp only [List.getElem_toArray, List.getElem_cons_zero, List.getElem_cons_succ]); (try simp only [Act.put, List.setIfInBounds_toArray, List.set_cons_zero, List.set_cons_succ])
        (refine wpAnyH_take (i := 9) (v := ?_) rfl (by kernel_rfl) (by kernel_rfl) (by kernel_rfl) (fun _ _ _ h => h) (Or.inl ⟨by rfl, ?_⟩) (by assumption) ?_; rotate_left; focus (intro w hSw; (try dsimp only at hSw); (try simp only [List.getElem_toArray, List.getElem_cons_zero, List.getElem_cons_succ]); go_simp; try with_reducible rfl)); (try simp only [List.getElem_toArray, List.getElem_cons_zero, List.getElem_cons_succ]); (try simp only [Act.put, List.setIfInBounds_toArray, List.set_cons_zero, List.set_cons_succ])
        (refine wpAnyH_take (i := 10) (v := ?_) rfl (by kernel_rfl) (by kernel_rfl) (by kernel_rfl) (fun _ _ _ h => h) (Or.inl ⟨by rfl, ?_⟩) (by assumption) ?_; rotate_left; focus (intro w hSw; (try dsimp only at hSw); (try simp only [List.getElem_toArray, List.getElem_cons_zero, List.getElem_cons_succ]); go_simp; try with_reducible rfl)); (try simp only [List.getElem_toArray, List.getElem_cons_zero, List.getElem_cons_succ]); (try simp only [Act.put, List.setIfInBounds_toArray, List.set_cons_zero, List.set_cons_succ])
        (refine wpAnyH_take (i := 11) (v := ?_) rfl (by kernel_rfl) (by kernel_rfl) (by kernel_rfl) (fun _ _ _ h => h) (Or.inl ⟨by rfl, ?_⟩) (by assumption) ?_; rotate_left; focus (intro w hSw; (try dsimp only at hSw); (try simp only [List.getElem_toArray, List.getElem_cons_zero, List.getElem_cons_succ]); go_simp; try with_reducible rfl)); (try simp only [List.getElem_toArray, List.getElem_cons_zero, List.getElem_cons_succ]); (try simp only [Act.put, List.setIfInBounds_toArray, List.set_cons_zero, List.set_cons_succ])
        (refine wpAnyH_take (i := 12) (v := ?_) rfl (by kernel_rfl) (by kernel_rfl) (by kernel_rfl) (fun _ _ _ h => h) (Or.inl ⟨by rfl, ?_⟩) (by assumption) ?_; rotate_left; focus (intro w hSw; (try dsimp only at hSw); (try simp only [List.getElem_toArray, List.getElem_cons_zero, List.getElem_cons_succ]); go_simp; try with_reducible rfl)); (try simp only [List.getElem_toArray, List.getElem_cons_zero, List.getElem_cons_succ]); (try simp only [Act.put, List.setIfInBounds_toArray, List.set_cons_zero, List.set_cons_succ])
        (refine wpAnyH_take (i := 14) (v := ?_) rfl (by kernel_rfl) (by kernel_rfl) (by kernel_rfl) (fun _ _ _ h => h) (Or.inl ⟨by rfl, ?_⟩) (by assumption) ?_; rotate_left; focus (intro w hSw; (try dsimp only at hSw); (try simp only [List.getElem_toArray, List.getElem_cons_zero, List.getElem_cons_succ]); go_simp; try with_reducible rfl)); (try simp only [List.getElem_toArray, List.getElem_cons_zero, List.getElem_cons_succ]); (try simp only [Act.put, List.setIfInBounds_toArray, List.set_cons_zero, List.set_cons_succ])
        (refine wpAnyH_take (i := 15) (v := ?_) rfl (by kernel_rfl) (by kernel_rfl) (by kernel_rfl) (fun _ _ _ h => h) (Or.inl ⟨by rfl, ?_⟩) (by assumption) ?_; rotate_left; focus (intro w hSw; (try dsimp only at hSw); (try simp only [List.getElem_toArray, List.getElem_cons_zero, List.getElem_cons_succ]); go_simp; try with_reducible rfl)); (try simp only [List.getElem_toArray, List.getElem_cons_zero, List.getElem_cons_succ]); (try simp only [Act.put, List.setIfInBounds_toArray, List.set_cons_zero, List.set_cons_succ])
        (refine wpAnyH_take (i := 16) (v := ?_) rfl (by kernel_rfl) (by kernel_rfl) (by kernel_rfl) (fun _ _ _ h => h) (Or.inl ⟨by rfl, ?_⟩) (by assumption) ?_; rotate_left; focus (intro w hSw; (try dsimp only at hSw); (try simp only [List.getElem_toArray, List.getElem_cons_zero, List.getElem_cons_succ]); go_simp; try with_reducible rfl)); (try simp only [List.getElem_toArray, List.getElem_cons_zero, List.getElem_cons_succ]); (try simp only [Act.put, List.setIfInBounds_toArray, List.set_cons_zero, List.set_cons_succ])
        (refine wpAnyH_take (i := 17) (v := ?_) rfl (by kernel_rfl) (by kernel_rfl) (by kernel_rfl) (fun _ _ _ h => h) (Or.inl ⟨by rfl, ?_⟩) (by assumption) ?_; rotate_left; focus (intro w hSw; (try dsimp only at hSw); (try simp only [List.getElem_toArray, List.getElem_cons_zero, List.getElem_cons_succ]); go_simp; try with_reducible rfl)); (try simp only [List.getElem_toArray, List.getElem_cons_zero, List.getElem_cons_succ]); (try simp only [Act.put, List.setIfInBounds_toArray, List.set_cons_zero, List.set_cons_succ])
        (refine wpAnyH_take (i := 18) (v := ?_) rfl (by kernel_rfl) (by kernel_rfl) (by kernel_rfl) (fun _ _ _ h => h) (Or.inl ⟨by rfl, ?_⟩) (by assumption) ?_; rotate_left; focus (intro w hSw; (try dsimp only at hSw); (try simp only [List.getElem_toArray, List.getElem_cons_zero, List.getElem_cons_succ]); go_simp; try with_reducible rfl)); (try simp only [List.getElem_toArray, List.getElem_cons_zero, List.getElem_cons_succ]); (try simp only [Act.put, List.setIfInBounds_toArray, List.set_cons_zero, List.set_cons_succ])
        (refine wpAnyH_ready (rs := [13]) (by kernel_rfl) (by simp) ?_; refine AllReadyH.cons rfl (fun K hK => ?_) AllReadyH.nil; (try simp only [List.getElem_toArray, List.getElem_cons_zero, List.getElem_cons_succ]))
        go_simp
        go_at_call 111
        refine (spec_LockOf o _ zo).mono ?_
        generalize hlk : lkH o = lk at *
        have HLK := Lib.hid hlk
        clear hlk
        rintro e y2 ⟨rfl, x2⟩
        replace P := P.ext x2
        replace X := X.trans x2
        replace d1 := ((Ext.cell x2) _ _ lb1).trans d1
        replace d2 := ((Ext.cell x2) _ _ lb2).trans d2
        replace lb1 := Nat.lt_of_lt_of_le lb1 (Ext.size x2)
        replace lb2 := Nat.lt_of_lt_of_le lb2 (Ext.size x2)
        (try dsimp only)
        refine hK.out _ _ (by exact ⟨P.2.1 1 _ rfl, P.2.1 2 _ rfl, d1, d2⟩) (fun hHeld => ?_)
        clear hK K
        by_cases hl : lk = y1
        · have HR := Lib.hid (show twB s i1 i2 = true from HH.out HVV.out hl)
          have hle : (lk.toList == y1.toList) = true := by rw [toList_beq]; exact decide_eq_true hl
          clear hl
          (refine wpAnyH_take (i := 19) (v := .bool true) rfl (by kernel_rfl) (by kernel_rfl) (by kernel_rfl) (fun _ _ _ h => h) (Or.inl ⟨by rfl, ?_⟩) (by assumption) ?_; focus (intro w hSw; (try dsimp only at hSw); (try simp only [List.getElem_toArray, List.getElem_cons_zero, List.getElem_cons_succ]); go_simp; (first | done | simp [hle] | exact congrArg _ hle))); (try simp only [List.getElem_toArray, List.getElem_cons_zero, List.getElem_cons_succ]); (try simp only [Act.put, List.setIfInBounds_toArray, List.set_cons_zero, List.set_cons_succ])
          (refine wpAnyH_take (i := 20) (v := ?_) rfl (by kernel_rfl) (by kernel_rfl) (by kernel_rfl) (fun _ _ _ h => h) (Or.inl ⟨by rfl, ?_⟩) (by assumption) ?_; rotate_left; focus (intro w hSw; (try dsimp only at hSw); (try simp only [List.getElem_toArray, List.getElem_cons_zero, List.getElem_cons_succ]); go_simp; try with_reducible rfl)); (try simp only [List.getElem_toArray, List.getElem_cons_zero, List.getElem_cons_succ]); (try simp only [Act.put, List.setIfInBounds_toArray, List.set_cons_zero, List.set_cons_succ])
          refine wpAnyH_done (by kernel_rfl) ?_ _
          go_wp2
          go_ret
          exact ⟨ret_bool HR.out.symm, X⟩
        · have HN := Lib.hid (show twN s i1 i2 (k + 1) = false by rw [HS.out, HT.out, decide_eq_false hl]; simp)
          have hle : (lk.toList == y1.toList) = false := by rw [toList_beq]; exact decide_eq_false hl
          clear hl
          (refine wpAnyH_take (i := 19) (v := .bool false) rfl (by kernel_rfl) (by kernel_rfl) (by kernel_rfl) (fun _ _ _ h => h) (Or.inl ⟨by rfl, ?_⟩) (by assumption) ?_; focus (intro w hSw; (try dsimp only at hSw); (try simp only [List.getElem_toArray, List.getElem_cons_zero, List.getElem_cons_succ]); go_simp; (first | done | simp [hle] | exact congrArg _ hle))); (try simp only [List.getElem_toArray, List.getElem_cons_zero, List.getElem_cons_succ]); (try simp only [Act.put, List.setIfInBounds_toArray, List.set_cons_zero, List.set_cons_succ])
          (refine wpAnyH_take (i := 20) (v := ?_) rfl (by kernel_rfl) (by kernel_rfl) (by kernel_rfl) (fun _ _ _ h => h) (Or.inl ⟨by rfl, ?_⟩) (by assumption) ?_; rotate_left; focus (intro w hSw; (try dsimp only at hSw); (try simp only [List.getElem_toArray, List.getElem_cons_zero, List.getElem_cons_succ]); go_simp; try with_reducible rfl)); (try simp only [List.getElem_toArray, List.getElem_cons_zero, List.getElem_cons_succ]); (try simp only [Act.put, List.setIfInBounds_toArray, List.set_cons_zero, List.set_cons_succ])
          refine wpAnyH_done (by kernel_rfl) ?_ _
          go_wp2
          go_roundw
          case rel => exact ⟨k + 1, by omega, by go_num, HN.out, P, X⟩
          case measure => simp [intOf]; omega
    · obtain rfl : k = 8 := by omega
      go_wp2
      go_ret
      exact ⟨ret_bool (show false = twB s i1 i2 from HT.out.symm), X⟩
set_option maxHeartbeats 1600000 in
theorem laws_sameSealT (hh ep : Int) (r p : ByteArray) (v1 v2 v3 u1 u2 u3 : Value) (s : SigV) (w : World) (h1 : Strs w v1 s.op) (h2 : Strs w v2 s.sh) (h3 : Strs w v3 s.si) (g1 : Strs w u1 s.op) (g2 : Strs w u2 s.sh) (g3 : Strs w u3 s.si) :
    Calls Tryd.prog 52 #[.agg #[.int .i64 hh, .int .i64 ep, .string r, .string p, .int .i64 s.at_, v1, v2, v3], .agg #[.int .i64 hh, .int .i64 ep, .string r, .string p, .int .i64 s.at_, u1, u2, u3]] w fun e w' => e = .returned (.bool true) ∧ Ext w w' := by
  obtain ⟨a1, c1, rfl⟩ := h1.form
  obtain ⟨a2, c2, rfl⟩ := h2.form
  obtain ⟨a3, c3, rfl⟩ := h3.form
  obtain ⟨d1, e1, rfl⟩ := g1.form
  obtain ⟨d2, e2, rfl⟩ := g2.form
  obtain ⟨d3, e3, rfl⟩ := g3.form
  have X : Ext w ((w.alloc (Obj.cells #[.int .i64 hh, .int .i64 ep, .string r, .string p, .int .i64 s.at_, .slice a1 s.op.length c1, .slice a2 s.sh.length c2, .slice a3 s.si.length c3] 39)).alloc (Obj.cells #[.int .i64 hh, .int .i64 ep, .string r, .string p, .int .i64 s.at_, .slice d1 s.op.length e1, .slice d2 s.sh.length e2, .slice d3 s.si.length e3] 39)) := ((Ext.refl w).alloc _).alloc _
  go_enter Tryd.func52, Tryd.ntmps52
  go_wp2_with fail
  generalize (w.alloc (Obj.cells #[.int .i64 hh, .int .i64 ep, .string r, .string p, .int .i64 s.at_, .slice a1 s.op.length c1, .slice a2 s.sh.length c2, .slice a3 s.si.length c3] 39)).alloc (Obj.cells #[.int .i64 hh, .int .i64 ep, .string r, .string p, .int .i64 s.at_, .slice d1 s.op.length e1, .slice d2 s.sh.length e2, .slice d3 s.si.length e3] 39) = W0 at *
  refine (laws_sameSigT _ _ _ _ _ _ s _ (h1.ext X) (h2.ext X) (h3.ext X) (g1.ext X) (g2.ext X) (g3.ext X)).mono ?_
  rintro e w1 ⟨rfl, x1⟩
  go_wp2
  go_ret
  exact ⟨rfl, X.trans x1⟩
end Go.Proofs.YtliebkhfddmhjaaDoor
namespace Go.Proofs.YtliebkhfddmhjaaDoor
open Go.RowKit

theorem sealOk_parts {root : ByteArray} {hh ep : Int} {r p : ByteArray} {s : SigV} (h : sealOkB root hh ep r p s = true) : headOk hh ep r p = true ∧ s.at_ = sealAt ep ∧ sigOkB root (headH hh ep r p) s = true := by
  simp only [sealOkB, Bool.and_eq_true, decide_eq_true_eq] at h
  exact h
theorem sealOk_other {root r2 : ByteArray} {hh ep : Int} {r p : ByteArray} {s : SigV} (h : sealOkB root hh ep r p s = true) (hne : r2 ≠ root) : sealOkB r2 hh ep r p s = false := by
  obtain ⟨h1, h2, h3⟩ := sealOk_parts h
  rw [sealOkB, sigOk_other h3 hne]
  simp
/-- another root of the head: what the law asks -/
theorem seal_turned {root : ByteArray} {hh ep : Int} {r r2 p : ByteArray} {s : SigV} (h : sealOkB root hh ep r p s = true) (hs : r2.size = r.size) :
    sealOkB root hh ep r2 p s = sigOkB root (headH hh ep r2 p) s ∧ (sgIdx (headH hh ep r2 p) = sgIdx (headH hh ep r p) → sealOkB root hh ep r2 p s = true) ∧
    (sgIdx (headH hh ep r2 p) ≠ sgIdx (headH hh ep r p) → sealOkB root hh ep r2 p s = true → clB (sgTexts (headH hh ep r2 p) s) (sgTexts (headH hh ep r p) s) 16 = true ∨ twB s (sgIdx (headH hh ep r p)) (sgIdx (headH hh ep r2 p)) = true) := by
  obtain ⟨h1, h2, h3⟩ := sealOk_parts h
  have hk : headOk hh ep r2 p = true := by rw [← h1, headOk, headOk, hs]
  have e : sealOkB root hh ep r2 p s = sigOkB root (headH hh ep r2 p) s := by rw [sealOkB, hk, decide_eq_true h2]; simp
  refine ⟨e, fun hi => ?_, fun hi ho => ?_⟩
  · rw [e]
    obtain ⟨k1, k2, k3⟩ := sigOk_parts h3
    rw [sigOkB, k1, decide_eq_true (Nat.le_trans (headH_32 _ _ _ _) (by decide : 32 ≤ 200)), sgRoot, hi, ← k3, sgRoot]
    simp
  · rw [e] at ho
    exact seal_clash ho h3 hi
theorem seal_back {hh ep : Int} {r p : ByteArray} {s : SigV} (h : sealOk hh ep r p s = true) : seOk (sealT hh ep r p s) = true ∧ seI (sealT hh ep r p s) = hh ∧ seE (sealT hh ep r p s) = ep ∧ seR (sealT hh ep r p s) = r ∧ seP (sealT hh ep r p s) = p ∧ seV (sealT hh ep r p s) = s ∧ (sealT hh ep r p s).size ≤ 400 := by
  have h' := h
  rw [sealOk, Bool.and_eq_true] at h'
  obtain ⟨k1, k2⟩ := h'
  obtain ⟨b0, b1, b2, b3, b4⟩ := head_back k1
  obtain ⟨c1, c2⟩ := sig_back k2
  have hz := headText_34 hh ep r p
  have hv := varT_size (headText hh ep r p).size
  have hs : (sigT s).size = 321 := by have h := c1; rw [rdSig, Bool.and_eq_true, decide_eq_true_eq] at h; exact h.1
  have hx : sigTx s = sigT s := by simp [sigTx, k2]
  rw [sealT_yes h, hx]
  generalize hT : varT (headText hh ep r p).size ++ headText hh ep r p ++ sigT s = T
  have hl : T.data.toList.drop 0 = varB (headText hh ep r p).size ++ ((headText hh ep r p).data.toList ++ (sigT s).data.toList) := by
    rw [← hT, ba_append, ba_append, List.append_assoc]; rfl
  have hsz : T.size = (varT (headText hh ep r p).size).size + (headText hh ep r p).size + 321 := by rw [← hT, ByteArray.size_append, ByteArray.size_append, hs]
  have hvb : (varB (headText hh ep r p).size).length = (varT (headText hh ep r p).size).size := by rw [varB, ba_len]
  obtain ⟨r1, r2, r3⟩ := rs_at (t := T) (a := 0) hl (by omega)
  rw [show ((0 : Nat) : Int) = 0 from rfl] at r1 r2 r3
  have hx2 : T.extract (rsE T 0) T.size = sigT s := by
    apply ba_ext
    rw [ba_extract, r3, Nat.zero_add, hvb, hsz, show (varT (headText hh ep r p).size).size + (headText hh ep r p).size + 321 - ((varT (headText hh ep r p).size).size + (headText hh ep r p).size) = 321 by omega]
    have : T.data.toList = (varB (headText hh ep r p).size ++ (headText hh ep r p).data.toList) ++ (sigT s).data.toList := by have := hl; rw [List.drop_zero] at this; rw [this, List.append_assoc]
    rw [this, List.drop_left' (by rw [List.length_append, hvb, ba_len]), List.take_of_length_le (by rw [ba_len, hs]; exact Nat.le_refl _)]
  have hok : seOk T = true := by rw [seOk, r1, r2, b0, hx2, c1]; rfl
  obtain ⟨e1, e2, e3, e4, e5⟩ := se_yes hok
  rw [r2] at e1 e2 e3 e4
  rw [hx2, c2] at e5
  exact ⟨hok, e1.trans b1, e2.trans b2, e3.trans b3, e4.trans b4, e5, by omega⟩
theorem head_fit2 (h ep : Int) (r p : ByteArray) : (headH h ep r p).size ≤ 200 := Nat.le_trans (headH_32 _ _ _ _) (by decide)
theorem texts_fit (x : ByteArray) (s : SigV) : ∀ t ∈ sgTexts x s, t.size ≤ 1073741824 := by
  intro t ht
  rw [sgTexts] at ht
  split at ht
  · rw [sgUp, List.mem_append, sgMid, List.mem_append, sgLow, List.mem_map, List.mem_map] at ht
    rcases ht with (⟨j, -, rfl⟩ | ht) | ⟨j, -, rfl⟩
    · exact tagTx_size _ _
    · simp at ht; rw [ht]; exact tagTx_size _ _
    · exact tagTx_size _ _
  · simp at ht
set_option maxRecDepth 100000 in
set_option maxHeartbeats 12800000 in
theorem laws_FnSeals (v : Value) (bs : List Int) (w : World) (h : Code w w.heap.size v bs) (hT : Tabs w) :
    Calls Tryd.prog 7 #[v] w fun e w' => e = .returned (.bool true) ∧ Ext w w' := by
  have HT := Lib.hid hT
  clear hT
  have HC := Lib.hid h
  obtain ⟨a0, cap, rfl, -, -⟩ := id h
  by_cases hb : (1048576 : Int) < bs.length
  · go_enter Tryd.func7, Tryd.ntmps7
    go_wp2_with (go_at_call 27; refine (laws_big _ _ bs _ HC.out).mono ?_; rintro e w' ⟨rfl, rfl⟩)
    go_ret
    exact ⟨rfl, (by repeat (first | (with_reducible first | exact Ext.refl _ | assumption | apply Ext.alloc | apply Ext.drew | apply Ext.drewN | refine Ext.setCell ?_ ?_ _ | refine Ext.trans ?_ (by assumption)) | (show _ ≤ _; first | omega | (dsimp only; omega) | (simp; done) | (simp; omega))))⟩
  have hl : bs.length ≤ 1048576 := by omega
  clear h
  go_enter Tryd.func7, Tryd.ntmps7
  go_wp2_with fail
  refine (laws_big _ _ bs _ HC.out).mono ?_
  rintro e w' ⟨rfl, rfl⟩
  go_wp2_with fail
  refine (spec_DrawSeal _ bs _ HC.out hl).mono ?_
  rintro e w1 ⟨hh, ep, r, p, root, S, a1, a2, a3, c1, c2, c3, rfl, hr16, hq16, hok, so, X⟩
  obtain ⟨hhd, hat, hsg⟩ := sealOk_parts hok
  obtain ⟨hw, -, -⟩ := sigOk_parts hsg
  have hsk : sealOk hh ep r p S = true := by rw [sealOk, hhd, hw]; rfl
  have HSF := Lib.hid (sig_fit hw)
  have HSK := Lib.hid hsk
  have HW := Lib.hid hw
  have HO := Lib.hid hok
  have HN := Lib.hid (fun r2 (hne : r2 ≠ root) => sealOk_other hok hne)
  have HTU := Lib.hid (fun r2 (hs : r2.size = r.size) => seal_turned (r2 := r2) hok hs)
  have HAT := Lib.hid hat
  have HBK := Lib.hid (seal_back hsk)
  clear hok hhd hat hsg hw hsk
  have SO := so.mono (Nat.zero_le _)
  clear so
  have e1 : Ext w1 (w1.alloc (Obj.cells #[.int .i64 hh, .int .i64 ep, .string r, .string p, .int .i64 S.at_, .slice a1 S.op.length c1, .slice a2 S.sh.length c2, .slice a3 S.si.length c3] 39)) := (Ext.refl _).alloc _
  have P := Bx.new w1 #[.int .i64 hh, .int .i64 ep, .string r, .string p, .int .i64 S.at_, .slice a1 S.op.length c1, .slice a2 S.sh.length c2, .slice a3 S.si.length c3] 39
  replace X := X.trans e1
  replace SO := SO.ext e1
  go_wp2_with fail
  generalize w1.alloc (Obj.cells #[.int .i64 hh, .int .i64 ep, .string r, .string p, .int .i64 S.at_, .slice a1 S.op.length c1, .slice a2 S.sh.length c2, .slice a3 S.si.length c3] 39) = w2 at *
  generalize w1.heap.size = B at *
  clear e1
  refine (spec_DrawPlaces2 _ bs _ (HC.out.ext (Nat.le_refl _) X X.size) hl).mono ?_
  rintro e w3 ⟨ys, pg, pc, rfl, hy, -, hpg, hcell, -, x3⟩
  replace X := X.trans x3
  replace SO := SO.ext x3
  replace P := P.ext x3
  have y0 := hcell 0 (by omega)
  have y1 := hcell 1 (by omega)
  have b0 := hy 0
  have b1 := hy 1
  clear hcell hy
  generalize ys.getD 0 0 = n0 at *
  generalize ys.getD 1 0 = n1 at *
  have p0 := P.2.1 0 _ rfl
  have p1 := P.2.1 1 _ rfl
  have p2 := P.2.1 2 _ rfl
  have p3 := P.2.1 3 _ rfl
  have p4 := P.2.1 4 _ rfl
  have p5 := P.2.1 5 _ rfl
  have p6 := P.2.1 6 _ rfl
  have p7 := P.2.1 7 _ rfl
  go_wp2_with fail
  refine (impl_SealText hh ep r p _ _ _ S _ SO.1.strs SO.2.1.strs SO.2.2.1.strs HSF.out).mono ?_
  rw [HSK.out]
  rintro e w4 ⟨rfl, x4⟩
  clear p0 p1 p2 p3 p4 p5 p6 p7
  replace X := X.trans x4
  replace SO := SO.ext x4
  replace P := P.ext x4
  replace y0 := ((Ext.cell x4) _ _ hpg).trans y0
  replace y1 := ((Ext.cell x4) _ _ hpg).trans y1
  replace hpg := Nat.lt_of_lt_of_le hpg (Ext.size x4)
  have hz := HBK.out.2.2.2.2.2.2
  have HB1 := Lib.hid HBK.out.1
  have HB2 := Lib.hid HBK.out.2.1
  have HB3 := Lib.hid HBK.out.2.2.1
  have HB4 := Lib.hid HBK.out.2.2.2.1
  have HB5 := Lib.hid HBK.out.2.2.2.2.1
  have HB6 := Lib.hid HBK.out.2.2.2.2.2.1
  clear HBK
  generalize sealT hh ep r p S = st at *
  go_wp2_with fail
  refine (impl_ReadSeal st _ (by omega)).mono ?_
  rw [HB2.out, HB3.out, HB4.out, HB5.out, HB6.out, HB1.out]
  rintro e w5 ⟨d1, e1, d2, e2, d3, e3, rfl, tto, x5⟩
  replace X := X.trans x5
  replace SO := SO.ext x5
  replace P := P.ext x5
  replace y0 := ((Ext.cell x5) _ _ hpg).trans y0
  replace y1 := ((Ext.cell x5) _ _ hpg).trans y1
  replace hpg := Nat.lt_of_lt_of_le hpg (Ext.size x5)
  have TO := tto.mono (Nat.zero_le _)
  have u1 := fun k hk => (own_lt SO.1 k hk).2
  have u2 := fun k hk => (own_lt SO.2.1 k hk).2
  have u3 := fun k hk => (own_lt SO.2.2.1 k hk).2
  have t1 := fun k hk => (own_lt TO.1 k hk).2
  have t2 := fun k hk => (own_lt TO.2.1 k hk).2
  have t3 := fun k hk => (own_lt TO.2.2.1 k hk).2
  have lpb := P.1
  have lpg5 := hpg
  have lwD := X.size
  clear tto
  have R : Bx ((w5.alloc (Obj.cells #[.int .i64 hh, .int .i64 ep, .string r, .string p, .int .i64 S.at_, .slice d1 S.op.length e1, .slice d2 S.sh.length e2, .slice d3 S.si.length e3] 39)).alloc (Obj.cells #[.int .i64 hh, .int .i64 ep, .string r, .string p, .int .i64 S.at_, .slice a1 S.op.length c1, .slice a2 S.sh.length c2, .slice a3 S.si.length c3] 39)) w5.heap.size [.int .i64 hh, .int .i64 ep, .string r, .string p, .int .i64 S.at_, .slice d1 S.op.length e1, .slice d2 S.sh.length e2, .slice d3 S.si.length e3] := (Bx.new w5 _ _).ext ((Ext.refl _).alloc _)
  have O : Bx ((w5.alloc (Obj.cells #[.int .i64 hh, .int .i64 ep, .string r, .string p, .int .i64 S.at_, .slice d1 S.op.length e1, .slice d2 S.sh.length e2, .slice d3 S.si.length e3] 39)).alloc (Obj.cells #[.int .i64 hh, .int .i64 ep, .string r, .string p, .int .i64 S.at_, .slice a1 S.op.length c1, .slice a2 S.sh.length c2, .slice a3 S.si.length c3] 39)) (w5.heap.size + 1) [.int .i64 hh, .int .i64 ep, .string r, .string p, .int .i64 S.at_, .slice a1 S.op.length c1, .slice a2 S.sh.length c2, .slice a3 S.si.length c3] := by have e := Bx.new (w5.alloc (Obj.cells #[.int .i64 hh, .int .i64 ep, .string r, .string p, .int .i64 S.at_, .slice d1 S.op.length e1, .slice d2 S.sh.length e2, .slice d3 S.si.length e3] 39)) #[.int .i64 hh, .int .i64 ep, .string r, .string p, .int .i64 S.at_, .slice a1 S.op.length c1, .slice a2 S.sh.length c2, .slice a3 S.si.length c3] 39; rw [World.size_alloc] at e; exact e
  have p0 := P.2.1 0 _ rfl
  have p1 := P.2.1 1 _ rfl
  have p2 := P.2.1 2 _ rfl
  have p3 := P.2.1 3 _ rfl
  have p4 := P.2.1 4 _ rfl
  have p5 := P.2.1 5 _ rfl
  have p6 := P.2.1 6 _ rfl
  have p7 := P.2.1 7 _ rfl
  have pa0 := (P.ext ((Ext.refl _).alloc (Obj.cells #[.int .i64 hh, .int .i64 ep, .string r, .string p, .int .i64 S.at_, .slice d1 S.op.length e1, .slice d2 S.sh.length e2, .slice d3 S.si.length e3] 39))).2.1 0 _ rfl
  have pa1 := (P.ext ((Ext.refl _).alloc (Obj.cells #[.int .i64 hh, .int .i64 ep, .string r, .string p, .int .i64 S.at_, .slice d1 S.op.length e1, .slice d2 S.sh.length e2, .slice d3 S.si.length e3] 39))).2.1 1 _ rfl
  have pa2 := (P.ext ((Ext.refl _).alloc (Obj.cells #[.int .i64 hh, .int .i64 ep, .string r, .string p, .int .i64 S.at_, .slice d1 S.op.length e1, .slice d2 S.sh.length e2, .slice d3 S.si.length e3] 39))).2.1 2 _ rfl
  have pa3 := (P.ext ((Ext.refl _).alloc (Obj.cells #[.int .i64 hh, .int .i64 ep, .string r, .string p, .int .i64 S.at_, .slice d1 S.op.length e1, .slice d2 S.sh.length e2, .slice d3 S.si.length e3] 39))).2.1 3 _ rfl
  have pa4 := (P.ext ((Ext.refl _).alloc (Obj.cells #[.int .i64 hh, .int .i64 ep, .string r, .string p, .int .i64 S.at_, .slice d1 S.op.length e1, .slice d2 S.sh.length e2, .slice d3 S.si.length e3] 39))).2.1 4 _ rfl
  have pa5 := (P.ext ((Ext.refl _).alloc (Obj.cells #[.int .i64 hh, .int .i64 ep, .string r, .string p, .int .i64 S.at_, .slice d1 S.op.length e1, .slice d2 S.sh.length e2, .slice d3 S.si.length e3] 39))).2.1 5 _ rfl
  have pa6 := (P.ext ((Ext.refl _).alloc (Obj.cells #[.int .i64 hh, .int .i64 ep, .string r, .string p, .int .i64 S.at_, .slice d1 S.op.length e1, .slice d2 S.sh.length e2, .slice d3 S.si.length e3] 39))).2.1 6 _ rfl
  have pa7 := (P.ext ((Ext.refl _).alloc (Obj.cells #[.int .i64 hh, .int .i64 ep, .string r, .string p, .int .i64 S.at_, .slice d1 S.op.length e1, .slice d2 S.sh.length e2, .slice d3 S.si.length e3] 39))).2.1 7 _ rfl
  have e6 : Ext w5 ((w5.alloc (Obj.cells #[.int .i64 hh, .int .i64 ep, .string r, .string p, .int .i64 S.at_, .slice d1 S.op.length e1, .slice d2 S.sh.length e2, .slice d3 S.si.length e3] 39)).alloc (Obj.cells #[.int .i64 hh, .int .i64 ep, .string r, .string p, .int .i64 S.at_, .slice a1 S.op.length c1, .slice a2 S.sh.length c2, .slice a3 S.si.length c3] 39)) := ((Ext.refl _).alloc _).alloc _
  replace X := X.trans e6
  replace SO := SO.ext e6
  replace P := P.ext e6
  replace y0 := ((Ext.cell e6) _ _ hpg).trans y0
  replace y1 := ((Ext.cell e6) _ _ hpg).trans y1
  replace hpg := Nat.lt_of_lt_of_le hpg (Ext.size e6)
  replace TO := TO.ext e6
  have pb2 := P.2.1 2 _ rfl
  go_wp2_with fail
  generalize (w5.alloc (Obj.cells #[.int .i64 hh, .int .i64 ep, .string r, .string p, .int .i64 S.at_, .slice d1 S.op.length e1, .slice d2 S.sh.length e2, .slice d3 S.si.length e3] 39)).alloc (Obj.cells #[.int .i64 hh, .int .i64 ep, .string r, .string p, .int .i64 S.at_, .slice a1 S.op.length c1, .slice a2 S.sh.length c2, .slice a3 S.si.length c3] 39) = w6 at *
  generalize w5.heap.size = D at *
  clear e6 pb2 p0 p1 p2 p3 p4 p5 p6 p7 pa0 pa1 pa2 pa3 pa4 pa5 pa6 pa7
  refine (laws_turned r pg pc n0 n1 _ (by omega) hpg y0 y1 b0 b1).mono ?_
  rintro e w7 ⟨r2, rfl, hne, hsz, -, x7⟩
  replace X := X.trans x7
  replace SO := SO.ext x7
  replace P := P.ext x7
  replace y0 := ((Ext.cell x7) _ _ hpg).trans y0
  replace y1 := ((Ext.cell x7) _ _ hpg).trans y1
  replace hpg := Nat.lt_of_lt_of_le hpg (Ext.size x7)
  replace TO := TO.ext x7
  replace R := R.ext x7
  replace O := O.ext x7
  have hs2 : r2.size = r.size := hsz (by omega)
  have HTT := Lib.hid (HTU.out r2 hs2)
  clear hne hsz HTU
  have o0 := O.2.1 0 _ rfl
  have o1 := O.2.1 1 _ rfl
  have o2 := O.2.1 2 _ rfl
  have o3 := O.2.1 3 _ rfl
  have of2 := O.2.2 2
  have OF := O.set 2 (.string r2) (by simp)
  have PF := P.far (c := D + 1) (by omega) 2 (.string r2)
  have RF := R.far (c := D + 1) (by omega) 2 (.string r2)
  have SF := SO.far (b := D + 1) (fun k hk => by have := u1 k hk; omega) (fun k hk => by have := u2 k hk; omega) (fun k hk => by have := u3 k hk; omega) 2 (.string r2)
  have TF := TO.far (b := D + 1) (fun k hk => by have := t1 k hk; omega) (fun k hk => by have := t2 k hk; omega) (fun k hk => by have := t3 k hk; omega) 2 (.string r2)
  have XF : Ext w (w7.setCell ⟨D + 1, 2, none⟩ (.string r2)) := X.setCell (by dsimp only; omega) (.string r2)
  have yF0 : (w7.setCell ⟨D + 1, 2, none⟩ (.string r2)).cell? ⟨pg, 0, none⟩ = some (.int .i64 n0) := (World.cell?_setCell_other _ _ _ _ (fun e => by have := congrArg Addr.block e; dsimp only at this; omega)).trans y0
  have yF1 : (w7.setCell ⟨D + 1, 2, none⟩ (.string r2)).cell? ⟨pg, 1, none⟩ = some (.int .i64 n1) := (World.cell?_setCell_other _ _ _ _ (fun e => by have := congrArg Addr.block e; dsimp only at this; omega)).trans y1
  have hpF : pg < (w7.setCell ⟨D + 1, 2, none⟩ (.string r2)).heap.size := by rw [World.size_setCell]; exact hpg
  clear O P R SO TO X y0 y1 hpg
  have O := OF
  have P := PF
  have R := RF
  have SO := SF
  have TO := TF
  have X := XF
  have y0 := yF0
  have y1 := yF1
  have hpg := hpF
  clear OF PF RF SF TF XF yF0 yF1 hpF
  go_wp2_with fail
  clear o0 o1 o2 o3 of2
  generalize w7.setCell ⟨D + 1, 2, none⟩ (.string r2) = w8 at *
  refine (spec_HeadHash hh ep r2 p _).mono ?_
  generalize hha : headH hh ep r2 p = ha at *
  rintro e w9 ⟨rfl, x9⟩
  replace X := X.trans x9
  replace SO := SO.ext x9
  replace P := P.ext x9
  replace y0 := ((Ext.cell x9) _ _ hpg).trans y0
  replace y1 := ((Ext.cell x9) _ _ hpg).trans y1
  replace hpg := Nat.lt_of_lt_of_le hpg (Ext.size x9)
  replace TO := TO.ext x9
  replace R := R.ext x9
  replace O := O.ext x9
  have HHA := Lib.hid hha
  clear hha
  have p0 := P.2.1 0 _ rfl
  have p1 := P.2.1 1 _ rfl
  have p2 := P.2.1 2 _ rfl
  have p3 := P.2.1 3 _ rfl
  have p4 := P.2.1 4 _ rfl
  have p5 := P.2.1 5 _ rfl
  have p6 := P.2.1 6 _ rfl
  have p7 := P.2.1 7 _ rfl
  go_wp2_with fail
  refine (spec_HeadHash hh ep r p _).mono ?_
  generalize hhb : headH hh ep r p = hb9 at *
  rintro e w10 ⟨rfl, x10⟩
  replace X := X.trans x10
  replace SO := SO.ext x10
  replace P := P.ext x10
  replace y0 := ((Ext.cell x10) _ _ hpg).trans y0
  replace y1 := ((Ext.cell x10) _ _ hpg).trans y1
  replace hpg := Nat.lt_of_lt_of_le hpg (Ext.size x10)
  replace TO := TO.ext x10
  replace R := R.ext x10
  replace O := O.ext x10
  have HHB := Lib.hid hhb
  clear p0 p1 p2 p3 p4 p5 p6 p7
  have o0 := O.2.1 0 _ rfl
  have o1 := O.2.1 1 _ rfl
  have o2 := O.2.1 2 _ rfl
  have o3 := O.2.1 3 _ rfl
  have o4 := O.2.1 4 _ rfl
  have o5 := O.2.1 5 _ rfl
  have o6 := O.2.1 6 _ rfl
  have o7 := O.2.1 7 _ rfl
  clear hhb
  go_wp2_with fail
  refine (impl_SealOk root hh ep r2 p _ _ _ S _ SO.1.strs SO.2.1.strs SO.2.2.1.strs HSF.out (HT.out.ext X)).mono ?_
  generalize hoo : sealOkB root hh ep r2 p S = oo at *
  rintro e w11 ⟨rfl, x11⟩
  replace X := X.trans x11
  replace SO := SO.ext x11
  replace P := P.ext x11
  replace y0 := ((Ext.cell x11) _ _ hpg).trans y0
  replace y1 := ((Ext.cell x11) _ _ hpg).trans y1
  replace hpg := Nat.lt_of_lt_of_le hpg (Ext.size x11)
  replace TO := TO.ext x11
  replace R := R.ext x11
  replace O := O.ext x11
  clear o0 o1 o2 o3 o4 o5 o6 o7
  clear hoo
  have za : ha.size ≤ 200 := by rw [← HHA.out]; exact head_fit2 _ _ _ _
  have zb : hb9.size ≤ 200 := by rw [← HHB.out]; exact head_fit2 _ _ _ _
  go_wp2_with fail
  refine (spec_SignBitsOf ha _ za).mono ?_
  generalize hia : sgIdx ha = ia at *
  rintro e w12 ⟨rfl, x12⟩
  replace X := X.trans x12
  replace SO := SO.ext x12
  replace P := P.ext x12
  replace y0 := ((Ext.cell x12) _ _ hpg).trans y0
  replace y1 := ((Ext.cell x12) _ _ hpg).trans y1
  replace hpg := Nat.lt_of_lt_of_le hpg (Ext.size x12)
  replace TO := TO.ext x12
  replace R := R.ext x12
  replace O := O.ext x12
  have HIA := Lib.hid hia
  clear hia
  go_wp2_with fail
  refine (spec_SignBitsOf hb9 _ zb).mono ?_
  generalize hib : sgIdx hb9 = ib at *
  rintro e w13 ⟨rfl, x13⟩
  replace X := X.trans x13
  replace SO := SO.ext x13
  replace P := P.ext x13
  replace y0 := ((Ext.cell x13) _ _ hpg).trans y0
  replace y1 := ((Ext.cell x13) _ _ hpg).trans y1
  replace hpg := Nat.lt_of_lt_of_le hpg (Ext.size x13)
  replace TO := TO.ext x13
  replace R := R.ext x13
  replace O := O.ext x13
  have HIB := Lib.hid hib
  clear hib
  have HL1 := Lib.hid HTT.out.2.1
  have HL2 := Lib.hid HTT.out.2.2
  clear HTT
  obtain ⟨sm, hsm⟩ : ∃ sm, (ia == ib) = sm := ⟨_, rfl⟩
  go_upto_region 13 with (fail)
  go_cut [87] (fun s87 wx => s87 = .bool false ∧ Ext w13 wx)
  case first =>
    have XL := Ext.refl w13
    have hsb := hsm
    have HSM := Lib.hid hsm
    go_wp2_with fail
    clear hsb
    refine wp_region_held_drew (S := (fun W => W.cell? ⟨B, 4, none⟩ = some (.int .i64 S.at_) ∧ W.cell? ⟨B, 5, none⟩ = some (.slice a1 S.op.length c1) ∧ W.cell? ⟨B, 6, none⟩ = some (.slice a2 S.sh.length c2) ∧ W.cell? ⟨B, 7, none⟩ = some (.slice a3 S.si.length c3))) (by kernel_rfl) (by exact ⟨P.2.1 4 _ rfl, P.2.1 5 _ rfl, P.2.1 6 _ rfl, P.2.1 7 _ rfl⟩) (fun hHeld => ?_)
    have xd : Ext w13 w13.drew := (Ext.refl w13).drew
    replace X := X.trans xd
    replace SO := SO.ext xd
    replace P := P.ext xd
    replace y0 := ((Ext.cell xd) _ _ hpg).trans y0
    replace y1 := ((Ext.cell xd) _ _ hpg).trans y1
    replace hpg := Nat.lt_of_lt_of_le hpg (Ext.size xd)
    replace TO := TO.ext xd
    replace R := R.ext xd
    replace O := O.ext xd
    replace XL := XL.trans xd
    generalize w13.drew = y2 at *
    cases sm
    · have hne : ia ≠ ib := by have := HSM.out; simpa using this
      clear HSM hsm
      (refine wpAnyH_take (i := 0) (v := ?_) rfl (by kernel_rfl) (by kernel_rfl) (by kernel_rfl) (fun _ _ _ h => h) (Or.inl ⟨by rfl, ?_⟩) (by assumption) ?_; rotate_left; focus (intro w hSw; (try dsimp only at hSw); (try simp only [List.getElem_toArray, List.getElem_cons_zero]); go_simp; try with_reducible rfl)); (try simp only [List.getElem_toArray, List.getElem_cons_zero]); (try simp only [Act.put, List.setIfInBounds_toArray, List.set_cons_zero, List.set_cons_succ])
      (refine wpAnyH_take (i := 1) (v := ?_) rfl (by kernel_rfl) (by kernel_rfl) (by kernel_rfl) (fun _ _ _ h => h) (Or.inl ⟨by rfl, ?_⟩) (by assumption) ?_; rotate_left; focus (intro w hSw; (try dsimp only at hSw); (try simp only [List.getElem_toArray, List.getElem_cons_zero, List.getElem_cons_succ]); go_simp; try with_reducible rfl)); (try simp only [List.getElem_toArray, List.getElem_cons_zero, List.getElem_cons_succ]); (try simp only [Act.put, List.setIfInBounds_toArray, List.set_cons_zero, List.set_cons_succ])
      (refine wpAnyH_take (i := 2) rfl (by kernel_rfl) (by kernel_rfl) (by kernel_rfl) (fun _ _ _ h => h) (Or.inr ⟨by rfl, rfl⟩) (by assumption) ?_); (try simp only [List.getElem_toArray, List.getElem_cons_zero, List.getElem_cons_succ]); (try simp only [Act.put, List.setIfInBounds_toArray, List.set_cons_zero, List.set_cons_succ])
      (refine wpAnyH_take (i := 3) rfl (by kernel_rfl) (by kernel_rfl) (by kernel_rfl) (fun _ _ _ h => h) (Or.inr ⟨by rfl, rfl⟩) (by assumption) ?_); (try simp only [List.getElem_toArray, List.getElem_cons_zero, List.getElem_cons_succ]); (try simp only [Act.put, List.setIfInBounds_toArray, List.set_cons_zero, List.set_cons_succ])
      (refine wpAnyH_take (i := 4) (v := ?_) rfl (by kernel_rfl) (by kernel_rfl) (by kernel_rfl) (fun _ _ _ h => h) (Or.inl ⟨by rfl, ?_⟩) (by assumption) ?_; rotate_left; focus (intro w hSw; (try dsimp only at hSw); (try simp only [List.getElem_toArray, List.getElem_cons_zero, List.getElem_cons_succ]); go_simp; try with_reducible rfl)); (try simp only [List.getElem_toArray, List.getElem_cons_zero, List.getElem_cons_succ]); (try simp only [Act.put, List.setIfInBounds_toArray, List.set_cons_zero, List.set_cons_succ])
      (refine wpAnyH_take (i := 5) (v := ?_) rfl (by kernel_rfl) (by kernel_rfl) (by kernel_rfl) (fun _ _ _ h => h) (Or.inl ⟨by rfl, ?_⟩) (by assumption) ?_; rotate_left; focus (intro w hSw; (try dsimp only at hSw); (try simp only [List.getElem_toArray, List.getElem_cons_zero, List.getElem_cons_succ]); go_simp; try with_reducible rfl)); (try simp only [List.getElem_toArray, List.getElem_cons_zero, List.getElem_cons_succ]); (try simp only [Act.put, List.setIfInBounds_toArray, List.set_cons_zero, List.set_cons_succ])
      (refine wpAnyH_take (i := 6) (v := ?_) rfl (by kernel_rfl) (by kernel_rfl) (by kernel_rfl) (fun _ _ _ h => h) (Or.inl ⟨by rfl, ?_⟩) (by assumption) ?_; rotate_left; focus (intro w hSw; (try dsimp only at hSw); (try simp only [List.getElem_toArray, List.getElem_cons_zero, List.getElem_cons_succ]); go_simp; try with_reducible rfl)); (try simp only [List.getElem_toArray, List.getElem_cons_zero, List.getElem_cons_succ]); (try simp only [Act.put, List.setIfInBounds_toArray, List.set_cons_zero, List.set_cons_succ])
      (refine wpAnyH_take (i := 7) (v := ?_) rfl (by kernel_rfl) (by kernel_rfl) (by kernel_rfl) (fun _ _ _ h => h) (Or.inl ⟨by rfl, ?_⟩) (by assumption) ?_; rotate_left; focus (intro w hSw; (try dsimp only at hSw); (try simp only [List.getElem_toArray, List.getElem_cons_zero, List.getElem_cons_succ]); go_simp; try with_reducible rfl)); (try simp only [List.getElem_toArray, List.getElem_cons_zero, List.getElem_cons_succ]); (try simp only [Act.put, List.setIfInBounds_toArray, List.set_cons_zero, List.set_cons_succ])
      (refine wpAnyH_take (i := 8) (v := ?_) rfl (by kernel_rfl) (by kernel_rfl) (by kernel_rfl) (fun _ _ _ h => h) (Or.inl ⟨by rfl, ?_⟩) (by assumption) ?_; rotate_left; focus (intro w hSw; (try dsimp only at hSw); (try simp only [List.getElem_toArray, List.getElem_cons_zero, List.getElem_cons_succ]); go_simp; try with_reducible rfl)); (try simp only [List.getElem_toArray, List.getElem_cons_zero, List.getElem_cons_succ]); (try simp only [Act.put, List.setIfInBounds_toArray, List.set_cons_zero, List.set_cons_succ])
      (refine wpAnyH_take (i := 9) (v := ?_) rfl (by kernel_rfl) (by kernel_rfl) (by kernel_rfl) (fun _ _ _ h => h) (Or.inl ⟨by rfl, ?_⟩) (by assumption) ?_; rotate_left; focus (intro w hSw; (try dsimp only at hSw); (try simp only [List.getElem_toArray, List.getElem_cons_zero, List.getElem_cons_succ]); go_simp; try with_reducible rfl)); (try simp only [List.getElem_toArray, List.getElem_cons_zero, List.getElem_cons_succ]); (try simp only [Act.put, List.setIfInBounds_toArray, List.set_cons_zero, List.set_cons_succ])
      cases oo
      · (refine wpAnyH_take (i := 10) (v := ?_) rfl (by kernel_rfl) (by kernel_rfl) (by kernel_rfl) (fun _ _ _ h => h) (Or.inl ⟨by rfl, ?_⟩) (by assumption) ?_; rotate_left; focus (intro w hSw; (try dsimp only at hSw); (try simp only [List.getElem_toArray, List.getElem_cons_zero, List.getElem_cons_succ]); go_simp; try with_reducible rfl)); (try simp only [List.getElem_toArray, List.getElem_cons_zero, List.getElem_cons_succ]); (try simp only [Act.put, List.setIfInBounds_toArray, List.set_cons_zero, List.set_cons_succ])
        (refine wpAnyH_take (i := 11) (v := ?_) rfl (by kernel_rfl) (by kernel_rfl) (by kernel_rfl) (fun _ _ _ h => h) (Or.inl ⟨by rfl, ?_⟩) (by assumption) ?_; rotate_left; focus (intro w hSw; (try dsimp only at hSw); (try simp only [List.getElem_toArray, List.getElem_cons_zero, List.getElem_cons_succ]); go_simp; try with_reducible rfl)); (try simp only [List.getElem_toArray, List.getElem_cons_zero, List.getElem_cons_succ]); (try simp only [Act.put, List.setIfInBounds_toArray, List.set_cons_zero, List.set_cons_succ])
        (refine wpAnyH_take (i := 12) rfl (by kernel_rfl) (by kernel_rfl) (by kernel_rfl) (fun _ _ _ h => h) (Or.inr ⟨by rfl, rfl⟩) (by assumption) ?_); (try simp only [List.getElem_toArray, List.getElem_cons_zero, List.getElem_cons_succ]); (try simp only [Act.put, List.setIfInBounds_toArray, List.set_cons_zero, List.set_cons_succ])
        (refine wpAnyH_take (i := 13) rfl (by kernel_rfl) (by kernel_rfl) (by kernel_rfl) (fun _ _ _ h => h) (Or.inr ⟨by rfl, rfl⟩) (by assumption) ?_); (try simp only [List.getElem_toArray, List.getElem_cons_zero, List.getElem_cons_succ]); (try simp only [Act.put, List.setIfInBounds_toArray, List.set_cons_zero, List.set_cons_succ])
        (refine wpAnyH_take (i := 14) rfl (by kernel_rfl) (by kernel_rfl) (by kernel_rfl) (fun _ _ _ h => h) (Or.inr ⟨by rfl, rfl⟩) (by assumption) ?_); (try simp only [List.getElem_toArray, List.getElem_cons_zero, List.getElem_cons_succ]); (try simp only [Act.put, List.setIfInBounds_toArray, List.set_cons_zero, List.set_cons_succ])
        (refine wpAnyH_take (i := 15) rfl (by kernel_rfl) (by kernel_rfl) (by kernel_rfl) (fun _ _ _ h => h) (Or.inr ⟨by rfl, rfl⟩) (by assumption) ?_); (try simp only [List.getElem_toArray, List.getElem_cons_zero, List.getElem_cons_succ]); (try simp only [Act.put, List.setIfInBounds_toArray, List.set_cons_zero, List.set_cons_succ])
        (refine wpAnyH_take (i := 16) rfl (by kernel_rfl) (by kernel_rfl) (by kernel_rfl) (fun _ _ _ h => h) (Or.inr ⟨by rfl, rfl⟩) (by assumption) ?_); (try simp only [List.getElem_toArray, List.getElem_cons_zero, List.getElem_cons_succ]); (try simp only [Act.put, List.setIfInBounds_toArray, List.set_cons_zero, List.set_cons_succ])
        (refine wpAnyH_take (i := 17) rfl (by kernel_rfl) (by kernel_rfl) (by kernel_rfl) (fun _ _ _ h => h) (Or.inr ⟨by rfl, rfl⟩) (by assumption) ?_); (try simp only [List.getElem_toArray, List.getElem_cons_zero, List.getElem_cons_succ]); (try simp only [Act.put, List.setIfInBounds_toArray, List.set_cons_zero, List.set_cons_succ])
        (refine wpAnyH_take (i := 18) rfl (by kernel_rfl) (by kernel_rfl) (by kernel_rfl) (fun _ _ _ h => h) (Or.inr ⟨by rfl, rfl⟩) (by assumption) ?_); (try simp only [List.getElem_toArray, List.getElem_cons_zero, List.getElem_cons_succ]); (try simp only [Act.put, List.setIfInBounds_toArray, List.set_cons_zero, List.set_cons_succ])
        (refine wpAnyH_take (i := 19) rfl (by kernel_rfl) (by kernel_rfl) (by kernel_rfl) (fun _ _ _ h => h) (Or.inr ⟨by rfl, rfl⟩) (by assumption) ?_); (try simp only [List.getElem_toArray, List.getElem_cons_zero, List.getElem_cons_succ]); (try simp only [Act.put, List.setIfInBounds_toArray, List.set_cons_zero, List.set_cons_succ])
        (refine wpAnyH_take (i := 20) rfl (by kernel_rfl) (by kernel_rfl) (by kernel_rfl) (fun _ _ _ h => h) (Or.inr ⟨by rfl, rfl⟩) (by assumption) ?_); (try simp only [List.getElem_toArray, List.getElem_cons_zero, List.getElem_cons_succ]); (try simp only [Act.put, List.setIfInBounds_toArray, List.set_cons_zero, List.set_cons_succ])
        (refine wpAnyH_take (i := 21) rfl (by kernel_rfl) (by kernel_rfl) (by kernel_rfl) (fun _ _ _ h => h) (Or.inr ⟨by rfl, rfl⟩) (by assumption) ?_); (try simp only [List.getElem_toArray, List.getElem_cons_zero, List.getElem_cons_succ]); (try simp only [Act.put, List.setIfInBounds_toArray, List.set_cons_zero, List.set_cons_succ])
        (refine wpAnyH_take (i := 22) (v := ?_) rfl (by kernel_rfl) (by kernel_rfl) (by kernel_rfl) (fun _ _ _ h => h) (Or.inl ⟨by rfl, ?_⟩) (by assumption) ?_; rotate_left; focus (intro w hSw; (try dsimp only at hSw); (try simp only [List.getElem_toArray, List.getElem_cons_zero, List.getElem_cons_succ]); go_simp; try with_reducible rfl)); (try simp only [List.getElem_toArray, List.getElem_cons_zero, List.getElem_cons_succ]); (try simp only [Act.put, List.setIfInBounds_toArray, List.set_cons_zero, List.set_cons_succ])
        (refine wpAnyH_take (i := 23) (v := ?_) rfl (by kernel_rfl) (by kernel_rfl) (by kernel_rfl) (fun _ _ _ h => h) (Or.inl ⟨by rfl, ?_⟩) (by assumption) ?_; rotate_left; focus (intro w hSw; (try dsimp only at hSw); (try simp only [List.getElem_toArray, List.getElem_cons_zero, List.getElem_cons_succ]); go_simp; try with_reducible rfl)); (try simp only [List.getElem_toArray, List.getElem_cons_zero, List.getElem_cons_succ]); (try simp only [Act.put, List.setIfInBounds_toArray, List.set_cons_zero, List.set_cons_succ])
        (refine wpAnyH_take (i := 24) rfl (by kernel_rfl) (by kernel_rfl) (by kernel_rfl) (fun _ _ _ h => h) (Or.inr ⟨by rfl, rfl⟩) (by assumption) ?_); (try simp only [List.getElem_toArray, List.getElem_cons_zero, List.getElem_cons_succ]); (try simp only [Act.put, List.setIfInBounds_toArray, List.set_cons_zero, List.set_cons_succ])
        (refine wpAnyH_take (i := 25) rfl (by kernel_rfl) (by kernel_rfl) (by kernel_rfl) (fun _ _ _ h => h) (Or.inr ⟨by rfl, rfl⟩) (by assumption) ?_); (try simp only [List.getElem_toArray, List.getElem_cons_zero, List.getElem_cons_succ]); (try simp only [Act.put, List.setIfInBounds_toArray, List.set_cons_zero, List.set_cons_succ])
        (refine wpAnyH_take (i := 26) rfl (by kernel_rfl) (by kernel_rfl) (by kernel_rfl) (fun _ _ _ h => h) (Or.inr ⟨by rfl, rfl⟩) (by assumption) ?_); (try simp only [List.getElem_toArray, List.getElem_cons_zero, List.getElem_cons_succ]); (try simp only [Act.put, List.setIfInBounds_toArray, List.set_cons_zero, List.set_cons_succ])
        (refine wpAnyH_take (i := 27) rfl (by kernel_rfl) (by kernel_rfl) (by kernel_rfl) (fun _ _ _ h => h) (Or.inr ⟨by rfl, rfl⟩) (by assumption) ?_); (try simp only [List.getElem_toArray, List.getElem_cons_zero, List.getElem_cons_succ]); (try simp only [Act.put, List.setIfInBounds_toArray, List.set_cons_zero, List.set_cons_succ])
        (refine wpAnyH_take (i := 28) rfl (by kernel_rfl) (by kernel_rfl) (by kernel_rfl) (fun _ _ _ h => h) (Or.inr ⟨by rfl, rfl⟩) (by assumption) ?_); (try simp only [List.getElem_toArray, List.getElem_cons_zero, List.getElem_cons_succ]); (try simp only [Act.put, List.setIfInBounds_toArray, List.set_cons_zero, List.set_cons_succ])
        (refine wpAnyH_take (i := 29) rfl (by kernel_rfl) (by kernel_rfl) (by kernel_rfl) (fun _ _ _ h => h) (Or.inr ⟨by rfl, rfl⟩) (by assumption) ?_); (try simp only [List.getElem_toArray, List.getElem_cons_zero, List.getElem_cons_succ]); (try simp only [Act.put, List.setIfInBounds_toArray, List.set_cons_zero, List.set_cons_succ])
        (refine wpAnyH_take (i := 30) (v := ?_) rfl (by kernel_rfl) (by kernel_rfl) (by kernel_rfl) (fun _ _ _ h => h) (Or.inl ⟨by rfl, ?_⟩) (by assumption) ?_; rotate_left; focus (intro w hSw; (try dsimp only at hSw); (try simp only [List.getElem_toArray, List.getElem_cons_zero, List.getElem_cons_succ]); go_simp; try with_reducible rfl)); (try simp only [List.getElem_toArray, List.getElem_cons_zero, List.getElem_cons_succ]); (try simp only [Act.put, List.setIfInBounds_toArray, List.set_cons_zero, List.set_cons_succ])
        (refine wpAnyH_take (i := 31) (v := ?_) rfl (by kernel_rfl) (by kernel_rfl) (by kernel_rfl) (fun _ _ _ h => h) (Or.inl ⟨by rfl, ?_⟩) (by assumption) ?_; rotate_left; focus (intro w hSw; (try dsimp only at hSw); (try simp only [List.getElem_toArray, List.getElem_cons_zero, List.getElem_cons_succ]); go_simp; try with_reducible rfl)); (try simp only [List.getElem_toArray, List.getElem_cons_zero, List.getElem_cons_succ]); (try simp only [Act.put, List.setIfInBounds_toArray, List.set_cons_zero, List.set_cons_succ])
        refine wpAnyH_done (by kernel_rfl) ?_ _
        go_wp2_with fail
        go_meet
        exact ⟨rfl, XL⟩
      · (refine wpAnyH_take (i := 10) (v := ?_) rfl (by kernel_rfl) (by kernel_rfl) (by kernel_rfl) (fun _ _ _ h => h) (Or.inl ⟨by rfl, ?_⟩) (by assumption) ?_; rotate_left; focus (intro w hSw; (try dsimp only at hSw); (try simp only [List.getElem_toArray, List.getElem_cons_zero, List.getElem_cons_succ]); go_simp; try with_reducible rfl)); (try simp only [List.getElem_toArray, List.getElem_cons_zero, List.getElem_cons_succ]); (try simp only [Act.put, List.setIfInBounds_toArray, List.set_cons_zero, List.set_cons_succ])
        (refine wpAnyH_take (i := 11) (v := ?_) rfl (by kernel_rfl) (by kernel_rfl) (by kernel_rfl) (fun _ _ _ h => h) (Or.inl ⟨by rfl, ?_⟩) (by assumption) ?_; rotate_left; focus (intro w hSw; (try dsimp only at hSw); (try simp only [List.getElem_toArray, List.getElem_cons_zero, List.getElem_cons_succ]); go_simp; try with_reducible rfl)); (try simp only [List.getElem_toArray, List.getElem_cons_zero, List.getElem_cons_succ]); (try simp only [Act.put, List.setIfInBounds_toArray, List.set_cons_zero, List.set_cons_succ])
        (refine wpAnyH_take (i := 12) (v := ?_) rfl (by kernel_rfl) (by kernel_rfl) (by kernel_rfl) (fun _ _ _ h => h) (Or.inl ⟨by rfl, ?_⟩) (by assumption) ?_; rotate_left; focus (intro w hSw; (try dsimp only at hSw); (try simp only [List.getElem_toArray, List.getElem_cons_zero, List.getElem_cons_succ]); go_simp; try with_reducible rfl)); (try simp only [List.getElem_toArray, List.getElem_cons_zero, List.getElem_cons_succ]); (try simp only [Act.put, List.setIfInBounds_toArray, List.set_cons_zero, List.set_cons_succ])
        (refine wpAnyH_take (i := 13) (v := ?_) rfl (by kernel_rfl) (by kernel_rfl) (by kernel_rfl) (fun _ _ _ h => h) (Or.inl ⟨by rfl, ?_⟩) (by assumption) ?_; rotate_left; focus (intro w hSw; (try dsimp only at hSw); (try simp only [List.getElem_toArray, List.getElem_cons_zero, List.getElem_cons_succ]); go_simp; try with_reducible rfl)); (try simp only [List.getElem_toArray, List.getElem_cons_zero, List.getElem_cons_succ]); (try simp only [Act.put, List.setIfInBounds_toArray, List.set_cons_zero, List.set_cons_succ])
        (refine wpAnyH_take (i := 14) (v := ?_) rfl (by kernel_rfl) (by kernel_rfl) (by kernel_rfl) (fun _ _ _ h => h) (Or.inl ⟨by rfl, ?_⟩) (by assumption) ?_; rotate_left; focus (intro w hSw; (try dsimp only at hSw); (try simp only [List.getElem_toArray, List.getElem_cons_zero, List.getElem_cons_succ]); go_simp; try with_reducible rfl)); (try simp only [List.getElem_toArray, List.getElem_cons_zero, List.getElem_cons_succ]); (try simp only [Act.put, List.setIfInBounds_toArray, List.set_cons_zero, List.set_cons_succ])
        (refine wpAnyH_take (i := 16) (v := ?_) rfl (by kernel_rfl) (by kernel_rfl) (by kernel_rfl) (fun _ _ _ h => h) (Or.inl ⟨by rfl, ?_⟩) (by assumption) ?_; rotate_left; focus (intro w hSw; (try dsimp only at hSw); (try simp only [List.getElem_toArray, List.getElem_cons_zero, List.getElem_cons_succ]); go_simp; try with_reducible rfl)); (try simp only [List.getElem_toArray, List.getElem_cons_zero, List.getElem_cons_succ]); (try simp only [Act.put, List.setIfInBounds_toArray, List.set_cons_zero, List.set_cons_succ])
        (refine wpAnyH_take (i := 17) (v := ?_) rfl (by kernel_rfl) (by kernel_rfl) (by kernel_rfl) (fun _ _ _ h => h) (Or.inl ⟨by rfl, ?_⟩) (by assumption) ?_; rotate_left; focus (intro w hSw; (try dsimp only at hSw); (try simp only [List.getElem_toArray, List.getElem_cons_zero, List.getElem_cons_succ]); go_simp; try with_reducible rfl)); (try simp only [List.getElem_toArray, List.getElem_cons_zero, List.getElem_cons_succ]); (try simp only [Act.put, List.setIfInBounds_toArray, List.set_cons_zero, List.set_cons_succ])
        (refine wpAnyH_take (i := 18) (v := ?_) rfl (by kernel_rfl) (by kernel_rfl) (by kernel_rfl) (fun _ _ _ h => h) (Or.inl ⟨by rfl, ?_⟩) (by assumption) ?_; rotate_left; focus (intro w hSw; (try dsimp only at hSw); (try simp only [List.getElem_toArray, List.getElem_cons_zero, List.getElem_cons_succ]); go_simp; try with_reducible rfl)); (try simp only [List.getElem_toArray, List.getElem_cons_zero, List.getElem_cons_succ]); (try simp only [Act.put, List.setIfInBounds_toArray, List.set_cons_zero, List.set_cons_succ])
        (refine wpAnyH_ready (rs := [15]) (by kernel_rfl) (by simp) ?_; refine AllReadyH.cons rfl (fun K hK => ?_) AllReadyH.nil; (try simp only [List.getElem_toArray, List.getElem_cons_zero, List.getElem_cons_succ]))
        go_simp
        go_at_call 36
        refine (spec_SigTexts ha _ _ _ S _ SO.1.strs SO.2.1.strs SO.2.2.1.strs HSF.out HW.out za).mono ?_
        rintro e y3 ⟨la, lc, rfl, lo, x3⟩
        have L1 := lo.strs
        clear lo
        replace X := X.trans x3
        replace SO := SO.ext x3
        replace P := P.ext x3
        replace y0 := ((Ext.cell x3) _ _ hpg).trans y0
        replace y1 := ((Ext.cell x3) _ _ hpg).trans y1
        replace hpg := Nat.lt_of_lt_of_le hpg (Ext.size x3)
        replace TO := TO.ext x3
        replace R := R.ext x3
        replace O := O.ext x3
        replace XL := XL.trans x3
        (try dsimp only)
        refine hK.out _ _ (by exact ⟨P.2.1 4 _ rfl, P.2.1 5 _ rfl, P.2.1 6 _ rfl, P.2.1 7 _ rfl⟩) (fun hHeld => ?_)
        clear hK K
        (refine wpAnyH_ready (rs := [19]) (by kernel_rfl) (by simp) ?_; refine AllReadyH.cons rfl (fun K hK => ?_) AllReadyH.nil; (try simp only [List.getElem_toArray, List.getElem_cons_zero, List.getElem_cons_succ]))
        go_simp
        go_at_call 36
        refine (spec_SigTexts hb9 _ _ _ S _ SO.1.strs SO.2.1.strs SO.2.2.1.strs HSF.out HW.out zb).mono ?_
        rintro e y4 ⟨lb, ld, rfl, lo, x4⟩
        have L2 := lo.strs
        clear lo
        replace X := X.trans x4
        replace SO := SO.ext x4
        replace P := P.ext x4
        replace y0 := ((Ext.cell x4) _ _ hpg).trans y0
        replace y1 := ((Ext.cell x4) _ _ hpg).trans y1
        replace hpg := Nat.lt_of_lt_of_le hpg (Ext.size x4)
        replace TO := TO.ext x4
        replace R := R.ext x4
        replace O := O.ext x4
        replace XL := XL.trans x4
        replace L1 := L1.ext x4
        (try dsimp only)
        refine hK.out _ _ (by exact ⟨P.2.1 4 _ rfl, P.2.1 5 _ rfl, P.2.1 6 _ rfl, P.2.1 7 _ rfl⟩) (fun hHeld => ?_)
        clear hK K
        (refine wpAnyH_ready (rs := [20]) (by kernel_rfl) (by simp) ?_; refine AllReadyH.cons rfl (fun K hK => ?_) AllReadyH.nil; (try simp only [List.getElem_toArray, List.getElem_cons_zero, List.getElem_cons_succ]))
        go_simp
        go_at_call 50
        refine (laws_clash _ _ _ _ 16 _ L1 L2 (texts_fit _ _) (texts_fit _ _)).mono ?_
        have HCL := Lib.hid (HL2.out hne rfl)
        generalize clB (sgTexts ha S) (sgTexts hb9 S) 16 = cl at *
        rintro e y5 ⟨rfl, x5⟩
        replace X := X.trans x5
        replace SO := SO.ext x5
        replace P := P.ext x5
        replace y0 := ((Ext.cell x5) _ _ hpg).trans y0
        replace y1 := ((Ext.cell x5) _ _ hpg).trans y1
        replace hpg := Nat.lt_of_lt_of_le hpg (Ext.size x5)
        replace TO := TO.ext x5
        replace R := R.ext x5
        replace O := O.ext x5
        replace XL := XL.trans x5
        replace L1 := L1.ext x5
        replace L2 := L2.ext x5
        (try dsimp only)
        refine hK.out _ _ (by exact ⟨P.2.1 4 _ rfl, P.2.1 5 _ rfl, P.2.1 6 _ rfl, P.2.1 7 _ rfl⟩) (fun hHeld => ?_)
        clear hK K
        (refine wpAnyH_take (i := 21) (v := ?_) rfl (by kernel_rfl) (by kernel_rfl) (by kernel_rfl) (fun _ _ _ h => h) (Or.inl ⟨by rfl, ?_⟩) (by assumption) ?_; rotate_left; focus (intro w hSw; (try dsimp only at hSw); (try simp only [List.getElem_toArray, List.getElem_cons_zero, List.getElem_cons_succ]); go_simp; try with_reducible rfl)); (try simp only [List.getElem_toArray, List.getElem_cons_zero, List.getElem_cons_succ]); (try simp only [Act.put, List.setIfInBounds_toArray, List.set_cons_zero, List.set_cons_succ])
        (refine wpAnyH_take (i := 22) (v := ?_) rfl (by kernel_rfl) (by kernel_rfl) (by kernel_rfl) (fun _ _ _ h => h) (Or.inl ⟨by rfl, ?_⟩) (by assumption) ?_; rotate_left; focus (intro w hSw; (try dsimp only at hSw); (try simp only [List.getElem_toArray, List.getElem_cons_zero, List.getElem_cons_succ]); go_simp; try with_reducible rfl)); (try simp only [List.getElem_toArray, List.getElem_cons_zero, List.getElem_cons_succ]); (try simp only [Act.put, List.setIfInBounds_toArray, List.set_cons_zero, List.set_cons_succ])
        (refine wpAnyH_take (i := 23) (v := ?_) rfl (by kernel_rfl) (by kernel_rfl) (by kernel_rfl) (fun _ _ _ h => h) (Or.inl ⟨by rfl, ?_⟩) (by assumption) ?_; rotate_left; focus (intro w hSw; (try dsimp only at hSw); (try simp only [List.getElem_toArray, List.getElem_cons_zero, List.getElem_cons_succ]); go_simp; try with_reducible rfl)); (try simp only [List.getElem_toArray, List.getElem_cons_zero, List.getElem_cons_succ]); (try simp only [Act.put, List.setIfInBounds_toArray, List.set_cons_zero, List.set_cons_succ])
        cases cl
        · have HTW := Lib.hid (show twB S ib ia = true from (HCL.out).resolve_left (by decide))
          (refine wpAnyH_take (i := 24) (v := ?_) rfl (by kernel_rfl) (by kernel_rfl) (by kernel_rfl) (fun _ _ _ h => h) (Or.inl ⟨by rfl, ?_⟩) (by assumption) ?_; rotate_left; focus (intro w hSw; (try dsimp only at hSw); (try simp only [List.getElem_toArray, List.getElem_cons_zero, List.getElem_cons_succ]); go_simp; try with_reducible rfl)); (try simp only [List.getElem_toArray, List.getElem_cons_zero, List.getElem_cons_succ]); (try simp only [Act.put, List.setIfInBounds_toArray, List.set_cons_zero, List.set_cons_succ])
          (refine wpAnyH_take (i := 25) (v := ?_) rfl (by kernel_rfl) (by kernel_rfl) (by kernel_rfl) (fun _ _ _ h => h) (Or.inl ⟨by rfl, ?_⟩) (by assumption) ?_; rotate_left; focus (intro w hSw; (try dsimp only at hSw); (try simp only [List.getElem_toArray, List.getElem_cons_zero, List.getElem_cons_succ]); go_simp; try with_reducible rfl)); (try simp only [List.getElem_toArray, List.getElem_cons_zero, List.getElem_cons_succ]); (try simp only [Act.put, List.setIfInBounds_toArray, List.set_cons_zero, List.set_cons_succ])
          (refine wpAnyH_take (i := 26) (v := ?_) rfl (by kernel_rfl) (by kernel_rfl) (by kernel_rfl) (fun _ _ _ h => h) (Or.inl ⟨by rfl, ?_⟩) (by assumption) ?_; rotate_left; focus (intro w hSw; (try dsimp only at hSw); (try simp only [List.getElem_toArray, List.getElem_cons_zero, List.getElem_cons_succ]); go_simp; try with_reducible rfl)); (try simp only [List.getElem_toArray, List.getElem_cons_zero, List.getElem_cons_succ]); (try simp only [Act.put, List.setIfInBounds_toArray, List.set_cons_zero, List.set_cons_succ])
          (refine wpAnyH_take (i := 27) (v := ?_) rfl (by kernel_rfl) (by kernel_rfl) (by kernel_rfl) (fun _ _ _ h => h) (Or.inl ⟨by rfl, ?_⟩) (by assumption) ?_; rotate_left; focus (intro w hSw; (try dsimp only at hSw); (try simp only [List.getElem_toArray, List.getElem_cons_zero, List.getElem_cons_succ]); go_simp; try with_reducible rfl)); (try simp only [List.getElem_toArray, List.getElem_cons_zero, List.getElem_cons_succ]); (try simp only [Act.put, List.setIfInBounds_toArray, List.set_cons_zero, List.set_cons_succ])
          (refine wpAnyH_ready (rs := [28]) (by kernel_rfl) (by simp) ?_; refine AllReadyH.cons rfl (fun K hK => ?_) AllReadyH.nil; (try simp only [List.getElem_toArray, List.getElem_cons_zero, List.getElem_cons_succ]))
          go_simp
          go_at_call 51
          refine (laws_twins _ _ _ S hb9 ha _ SO.1.strs SO.2.1.strs SO.2.2.1.strs HW.out zb za).mono ?_
          rw [HIB.out, HIA.out, HTW.out]
          rintro e y6 ⟨rfl, x6⟩
          replace X := X.trans x6
          replace SO := SO.ext x6
          replace P := P.ext x6
          replace y0 := ((Ext.cell x6) _ _ hpg).trans y0
          replace y1 := ((Ext.cell x6) _ _ hpg).trans y1
          replace hpg := Nat.lt_of_lt_of_le hpg (Ext.size x6)
          replace TO := TO.ext x6
          replace R := R.ext x6
          replace O := O.ext x6
          replace XL := XL.trans x6
          replace L1 := L1.ext x6
          replace L2 := L2.ext x6
          (try dsimp only)
          refine hK.out _ _ (by exact ⟨P.2.1 4 _ rfl, P.2.1 5 _ rfl, P.2.1 6 _ rfl, P.2.1 7 _ rfl⟩) (fun hHeld => ?_)
          clear hK K
          (refine wpAnyH_take (i := 29) (v := ?_) rfl (by kernel_rfl) (by kernel_rfl) (by kernel_rfl) (fun _ _ _ h => h) (Or.inl ⟨by rfl, ?_⟩) (by assumption) ?_; rotate_left; focus (intro w hSw; (try dsimp only at hSw); (try simp only [List.getElem_toArray, List.getElem_cons_zero, List.getElem_cons_succ]); go_simp; try with_reducible rfl)); (try simp only [List.getElem_toArray, List.getElem_cons_zero, List.getElem_cons_succ]); (try simp only [Act.put, List.setIfInBounds_toArray, List.set_cons_zero, List.set_cons_succ])
          (refine wpAnyH_take (i := 30) (v := ?_) rfl (by kernel_rfl) (by kernel_rfl) (by kernel_rfl) (fun _ _ _ h => h) (Or.inl ⟨by rfl, ?_⟩) (by assumption) ?_; rotate_left; focus (intro w hSw; (try dsimp only at hSw); (try simp only [List.getElem_toArray, List.getElem_cons_zero, List.getElem_cons_succ]); go_simp; try with_reducible rfl)); (try simp only [List.getElem_toArray, List.getElem_cons_zero, List.getElem_cons_succ]); (try simp only [Act.put, List.setIfInBounds_toArray, List.set_cons_zero, List.set_cons_succ])
          (refine wpAnyH_take (i := 31) (v := ?_) rfl (by kernel_rfl) (by kernel_rfl) (by kernel_rfl) (fun _ _ _ h => h) (Or.inl ⟨by rfl, ?_⟩) (by assumption) ?_; rotate_left; focus (intro w hSw; (try dsimp only at hSw); (try simp only [List.getElem_toArray, List.getElem_cons_zero, List.getElem_cons_succ]); go_simp; try with_reducible rfl)); (try simp only [List.getElem_toArray, List.getElem_cons_zero, List.getElem_cons_succ]); (try simp only [Act.put, List.setIfInBounds_toArray, List.set_cons_zero, List.set_cons_succ])
          refine wpAnyH_done (by kernel_rfl) ?_ _
          go_wp2_with fail
          go_meet
          exact ⟨rfl, XL⟩
        · (refine wpAnyH_take (i := 24) rfl (by kernel_rfl) (by kernel_rfl) (by kernel_rfl) (fun _ _ _ h => h) (Or.inr ⟨by rfl, rfl⟩) (by assumption) ?_); (try simp only [List.getElem_toArray, List.getElem_cons_zero, List.getElem_cons_succ]); (try simp only [Act.put, List.setIfInBounds_toArray, List.set_cons_zero, List.set_cons_succ])
          (refine wpAnyH_take (i := 25) rfl (by kernel_rfl) (by kernel_rfl) (by kernel_rfl) (fun _ _ _ h => h) (Or.inr ⟨by rfl, rfl⟩) (by assumption) ?_); (try simp only [List.getElem_toArray, List.getElem_cons_zero, List.getElem_cons_succ]); (try simp only [Act.put, List.setIfInBounds_toArray, List.set_cons_zero, List.set_cons_succ])
          (refine wpAnyH_take (i := 26) rfl (by kernel_rfl) (by kernel_rfl) (by kernel_rfl) (fun _ _ _ h => h) (Or.inr ⟨by rfl, rfl⟩) (by assumption) ?_); (try simp only [List.getElem_toArray, List.getElem_cons_zero, List.getElem_cons_succ]); (try simp only [Act.put, List.setIfInBounds_toArray, List.set_cons_zero, List.set_cons_succ])
          (refine wpAnyH_take (i := 27) rfl (by kernel_rfl) (by kernel_rfl) (by kernel_rfl) (fun _ _ _ h => h) (Or.inr ⟨by rfl, rfl⟩) (by assumption) ?_); (try simp only [List.getElem_toArray, List.getElem_cons_zero, List.getElem_cons_succ]); (try simp only [Act.put, List.setIfInBounds_toArray, List.set_cons_zero, List.set_cons_succ])
          (refine wpAnyH_take (i := 28) rfl (by kernel_rfl) (by kernel_rfl) (by kernel_rfl) (fun _ _ _ h => h) (Or.inr ⟨by rfl, rfl⟩) (by assumption) ?_); (try simp only [List.getElem_toArray, List.getElem_cons_zero, List.getElem_cons_succ]); (try simp only [Act.put, List.setIfInBounds_toArray, List.set_cons_zero, List.set_cons_succ])
          (refine wpAnyH_take (i := 29) rfl (by kernel_rfl) (by kernel_rfl) (by kernel_rfl) (fun _ _ _ h => h) (Or.inr ⟨by rfl, rfl⟩) (by assumption) ?_); (try simp only [List.getElem_toArray, List.getElem_cons_zero, List.getElem_cons_succ]); (try simp only [Act.put, List.setIfInBounds_toArray, List.set_cons_zero, List.set_cons_succ])
          (refine wpAnyH_take (i := 30) (v := ?_) rfl (by kernel_rfl) (by kernel_rfl) (by kernel_rfl) (fun _ _ _ h => h) (Or.inl ⟨by rfl, ?_⟩) (by assumption) ?_; rotate_left; focus (intro w hSw; (try dsimp only at hSw); (try simp only [List.getElem_toArray, List.getElem_cons_zero, List.getElem_cons_succ]); go_simp; try with_reducible rfl)); (try simp only [List.getElem_toArray, List.getElem_cons_zero, List.getElem_cons_succ]); (try simp only [Act.put, List.setIfInBounds_toArray, List.set_cons_zero, List.set_cons_succ])
          (refine wpAnyH_take (i := 31) (v := ?_) rfl (by kernel_rfl) (by kernel_rfl) (by kernel_rfl) (fun _ _ _ h => h) (Or.inl ⟨by rfl, ?_⟩) (by assumption) ?_; rotate_left; focus (intro w hSw; (try dsimp only at hSw); (try simp only [List.getElem_toArray, List.getElem_cons_zero, List.getElem_cons_succ]); go_simp; try with_reducible rfl)); (try simp only [List.getElem_toArray, List.getElem_cons_zero, List.getElem_cons_succ]); (try simp only [Act.put, List.setIfInBounds_toArray, List.set_cons_zero, List.set_cons_succ])
          refine wpAnyH_done (by kernel_rfl) ?_ _
          go_wp2_with fail
          go_meet
          exact ⟨rfl, XL⟩
    · have he : ia = ib := by have := HSM.out; simpa using this
      obtain rfl := HL1.out he
      clear HSM hsm
      (refine wpAnyH_take (i := 0) (v := ?_) rfl (by kernel_rfl) (by kernel_rfl) (by kernel_rfl) (fun _ _ _ h => h) (Or.inl ⟨by rfl, ?_⟩) (by assumption) ?_; rotate_left; focus (intro w hSw; (try dsimp only at hSw); (try simp only [List.getElem_toArray, List.getElem_cons_zero]); go_simp; try with_reducible rfl)); (try simp only [List.getElem_toArray, List.getElem_cons_zero]); (try simp only [Act.put, List.setIfInBounds_toArray, List.set_cons_zero, List.set_cons_succ])
      (refine wpAnyH_take (i := 1) (v := ?_) rfl (by kernel_rfl) (by kernel_rfl) (by kernel_rfl) (fun _ _ _ h => h) (Or.inl ⟨by rfl, ?_⟩) (by assumption) ?_; rotate_left; focus (intro w hSw; (try dsimp only at hSw); (try simp only [List.getElem_toArray, List.getElem_cons_zero, List.getElem_cons_succ]); go_simp; try with_reducible rfl)); (try simp only [List.getElem_toArray, List.getElem_cons_zero, List.getElem_cons_succ]); (try simp only [Act.put, List.setIfInBounds_toArray, List.set_cons_zero, List.set_cons_succ])
      (refine wpAnyH_take (i := 2) (v := ?_) rfl (by kernel_rfl) (by kernel_rfl) (by kernel_rfl) (fun _ _ _ h => h) (Or.inl ⟨by rfl, ?_⟩) (by assumption) ?_; rotate_left; focus (intro w hSw; (try dsimp only at hSw); (try simp only [List.getElem_toArray, List.getElem_cons_zero, List.getElem_cons_succ]); go_simp; try with_reducible rfl)); (try simp only [List.getElem_toArray, List.getElem_cons_zero, List.getElem_cons_succ]); (try simp only [Act.put, List.setIfInBounds_toArray, List.set_cons_zero, List.set_cons_succ])
      (refine wpAnyH_take (i := 3) (v := ?_) rfl (by kernel_rfl) (by kernel_rfl) (by kernel_rfl) (fun _ _ _ h => h) (Or.inl ⟨by rfl, ?_⟩) (by assumption) ?_; rotate_left; focus (intro w hSw; (try dsimp only at hSw); (try simp only [List.getElem_toArray, List.getElem_cons_zero, List.getElem_cons_succ]); go_simp; try with_reducible rfl)); (try simp only [List.getElem_toArray, List.getElem_cons_zero, List.getElem_cons_succ]); (try simp only [Act.put, List.setIfInBounds_toArray, List.set_cons_zero, List.set_cons_succ])
      (refine wpAnyH_take (i := 4) (v := ?_) rfl (by kernel_rfl) (by kernel_rfl) (by kernel_rfl) (fun _ _ _ h => h) (Or.inl ⟨by rfl, ?_⟩) (by assumption) ?_; rotate_left; focus (intro w hSw; (try dsimp only at hSw); (try simp only [List.getElem_toArray, List.getElem_cons_zero, List.getElem_cons_succ]); go_simp; try with_reducible rfl)); (try simp only [List.getElem_toArray, List.getElem_cons_zero, List.getElem_cons_succ]); (try simp only [Act.put, List.setIfInBounds_toArray, List.set_cons_zero, List.set_cons_succ])
      (refine wpAnyH_take (i := 5) (v := ?_) rfl (by kernel_rfl) (by kernel_rfl) (by kernel_rfl) (fun _ _ _ h => h) (Or.inl ⟨by rfl, ?_⟩) (by assumption) ?_; rotate_left; focus (intro w hSw; (try dsimp only at hSw); (try simp only [List.getElem_toArray, List.getElem_cons_zero, List.getElem_cons_succ]); go_simp; try with_reducible rfl)); (try simp only [List.getElem_toArray, List.getElem_cons_zero, List.getElem_cons_succ]); (try simp only [Act.put, List.setIfInBounds_toArray, List.set_cons_zero, List.set_cons_succ])
      (refine wpAnyH_take (i := 6) (v := ?_) rfl (by kernel_rfl) (by kernel_rfl) (by kernel_rfl) (fun _ _ _ h => h) (Or.inl ⟨by rfl, ?_⟩) (by assumption) ?_; rotate_left; focus (intro w hSw; (try dsimp only at hSw); (try simp only [List.getElem_toArray, List.getElem_cons_zero, List.getElem_cons_succ]); go_simp; try with_reducible rfl)); (try simp only [List.getElem_toArray, List.getElem_cons_zero, List.getElem_cons_succ]); (try simp only [Act.put, List.setIfInBounds_toArray, List.set_cons_zero, List.set_cons_succ])
      (refine wpAnyH_take (i := 7) (v := ?_) rfl (by kernel_rfl) (by kernel_rfl) (by kernel_rfl) (fun _ _ _ h => h) (Or.inl ⟨by rfl, ?_⟩) (by assumption) ?_; rotate_left; focus (intro w hSw; (try dsimp only at hSw); (try simp only [List.getElem_toArray, List.getElem_cons_zero, List.getElem_cons_succ]); go_simp; try with_reducible rfl)); (try simp only [List.getElem_toArray, List.getElem_cons_zero, List.getElem_cons_succ]); (try simp only [Act.put, List.setIfInBounds_toArray, List.set_cons_zero, List.set_cons_succ])
      (refine wpAnyH_take (i := 8) (v := ?_) rfl (by kernel_rfl) (by kernel_rfl) (by kernel_rfl) (fun _ _ _ h => h) (Or.inl ⟨by rfl, ?_⟩) (by assumption) ?_; rotate_left; focus (intro w hSw; (try dsimp only at hSw); (try simp only [List.getElem_toArray, List.getElem_cons_zero, List.getElem_cons_succ]); go_simp; try with_reducible rfl)); (try simp only [List.getElem_toArray, List.getElem_cons_zero, List.getElem_cons_succ]); (try simp only [Act.put, List.setIfInBounds_toArray, List.set_cons_zero, List.set_cons_succ])
      (refine wpAnyH_take (i := 9) rfl (by kernel_rfl) (by kernel_rfl) (by kernel_rfl) (fun _ _ _ h => h) (Or.inr ⟨by rfl, rfl⟩) (by assumption) ?_); (try simp only [List.getElem_toArray, List.getElem_cons_zero, List.getElem_cons_succ]); (try simp only [Act.put, List.setIfInBounds_toArray, List.set_cons_zero, List.set_cons_succ])
      (refine wpAnyH_take (i := 10) (v := ?_) rfl (by kernel_rfl) (by kernel_rfl) (by kernel_rfl) (fun _ _ _ h => h) (Or.inl ⟨by rfl, ?_⟩) (by assumption) ?_; rotate_left; focus (intro w hSw; (try dsimp only at hSw); (try simp only [List.getElem_toArray, List.getElem_cons_zero, List.getElem_cons_succ]); go_simp; try with_reducible rfl)); (try simp only [List.getElem_toArray, List.getElem_cons_zero, List.getElem_cons_succ]); (try simp only [Act.put, List.setIfInBounds_toArray, List.set_cons_zero, List.set_cons_succ])
      (refine wpAnyH_take (i := 11) (v := ?_) rfl (by kernel_rfl) (by kernel_rfl) (by kernel_rfl) (fun _ _ _ h => h) (Or.inl ⟨by rfl, ?_⟩) (by assumption) ?_; rotate_left; focus (intro w hSw; (try dsimp only at hSw); (try simp only [List.getElem_toArray, List.getElem_cons_zero, List.getElem_cons_succ]); go_simp; try with_reducible rfl)); (try simp only [List.getElem_toArray, List.getElem_cons_zero, List.getElem_cons_succ]); (try simp only [Act.put, List.setIfInBounds_toArray, List.set_cons_zero, List.set_cons_succ])
      (refine wpAnyH_take (i := 12) rfl (by kernel_rfl) (by kernel_rfl) (by kernel_rfl) (fun _ _ _ h => h) (Or.inr ⟨by rfl, rfl⟩) (by assumption) ?_); (try simp only [List.getElem_toArray, List.getElem_cons_zero, List.getElem_cons_succ]); (try simp only [Act.put, List.setIfInBounds_toArray, List.set_cons_zero, List.set_cons_succ])
      (refine wpAnyH_take (i := 13) rfl (by kernel_rfl) (by kernel_rfl) (by kernel_rfl) (fun _ _ _ h => h) (Or.inr ⟨by rfl, rfl⟩) (by assumption) ?_); (try simp only [List.getElem_toArray, List.getElem_cons_zero, List.getElem_cons_succ]); (try simp only [Act.put, List.setIfInBounds_toArray, List.set_cons_zero, List.set_cons_succ])
      (refine wpAnyH_take (i := 14) rfl (by kernel_rfl) (by kernel_rfl) (by kernel_rfl) (fun _ _ _ h => h) (Or.inr ⟨by rfl, rfl⟩) (by assumption) ?_); (try simp only [List.getElem_toArray, List.getElem_cons_zero, List.getElem_cons_succ]); (try simp only [Act.put, List.setIfInBounds_toArray, List.set_cons_zero, List.set_cons_succ])
      (refine wpAnyH_take (i := 15) rfl (by kernel_rfl) (by kernel_rfl) (by kernel_rfl) (fun _ _ _ h => h) (Or.inr ⟨by rfl, rfl⟩) (by assumption) ?_); (try simp only [List.getElem_toArray, List.getElem_cons_zero, List.getElem_cons_succ]); (try simp only [Act.put, List.setIfInBounds_toArray, List.set_cons_zero, List.set_cons_succ])
      (refine wpAnyH_take (i := 16) rfl (by kernel_rfl) (by kernel_rfl) (by kernel_rfl) (fun _ _ _ h => h) (Or.inr ⟨by rfl, rfl⟩) (by assumption) ?_); (try simp only [List.getElem_toArray, List.getElem_cons_zero, List.getElem_cons_succ]); (try simp only [Act.put, List.setIfInBounds_toArray, List.set_cons_zero, List.set_cons_succ])
      (refine wpAnyH_take (i := 17) rfl (by kernel_rfl) (by kernel_rfl) (by kernel_rfl) (fun _ _ _ h => h) (Or.inr ⟨by rfl, rfl⟩) (by assumption) ?_); (try simp only [List.getElem_toArray, List.getElem_cons_zero, List.getElem_cons_succ]); (try simp only [Act.put, List.setIfInBounds_toArray, List.set_cons_zero, List.set_cons_succ])
      (refine wpAnyH_take (i := 18) rfl (by kernel_rfl) (by kernel_rfl) (by kernel_rfl) (fun _ _ _ h => h) (Or.inr ⟨by rfl, rfl⟩) (by assumption) ?_); (try simp only [List.getElem_toArray, List.getElem_cons_zero, List.getElem_cons_succ]); (try simp only [Act.put, List.setIfInBounds_toArray, List.set_cons_zero, List.set_cons_succ])
      (refine wpAnyH_take (i := 19) rfl (by kernel_rfl) (by kernel_rfl) (by kernel_rfl) (fun _ _ _ h => h) (Or.inr ⟨by rfl, rfl⟩) (by assumption) ?_); (try simp only [List.getElem_toArray, List.getElem_cons_zero, List.getElem_cons_succ]); (try simp only [Act.put, List.setIfInBounds_toArray, List.set_cons_zero, List.set_cons_succ])
      (refine wpAnyH_take (i := 20) rfl (by kernel_rfl) (by kernel_rfl) (by kernel_rfl) (fun _ _ _ h => h) (Or.inr ⟨by rfl, rfl⟩) (by assumption) ?_); (try simp only [List.getElem_toArray, List.getElem_cons_zero, List.getElem_cons_succ]); (try simp only [Act.put, List.setIfInBounds_toArray, List.set_cons_zero, List.set_cons_succ])
      (refine wpAnyH_take (i := 21) rfl (by kernel_rfl) (by kernel_rfl) (by kernel_rfl) (fun _ _ _ h => h) (Or.inr ⟨by rfl, rfl⟩) (by assumption) ?_); (try simp only [List.getElem_toArray, List.getElem_cons_zero, List.getElem_cons_succ]); (try simp only [Act.put, List.setIfInBounds_toArray, List.set_cons_zero, List.set_cons_succ])
      (refine wpAnyH_take (i := 22) (v := ?_) rfl (by kernel_rfl) (by kernel_rfl) (by kernel_rfl) (fun _ _ _ h => h) (Or.inl ⟨by rfl, ?_⟩) (by assumption) ?_; rotate_left; focus (intro w hSw; (try dsimp only at hSw); (try simp only [List.getElem_toArray, List.getElem_cons_zero, List.getElem_cons_succ]); go_simp; try with_reducible rfl)); (try simp only [List.getElem_toArray, List.getElem_cons_zero, List.getElem_cons_succ]); (try simp only [Act.put, List.setIfInBounds_toArray, List.set_cons_zero, List.set_cons_succ])
      (refine wpAnyH_take (i := 23) (v := ?_) rfl (by kernel_rfl) (by kernel_rfl) (by kernel_rfl) (fun _ _ _ h => h) (Or.inl ⟨by rfl, ?_⟩) (by assumption) ?_; rotate_left; focus (intro w hSw; (try dsimp only at hSw); (try simp only [List.getElem_toArray, List.getElem_cons_zero, List.getElem_cons_succ]); go_simp; try with_reducible rfl)); (try simp only [List.getElem_toArray, List.getElem_cons_zero, List.getElem_cons_succ]); (try simp only [Act.put, List.setIfInBounds_toArray, List.set_cons_zero, List.set_cons_succ])
      (refine wpAnyH_take (i := 24) rfl (by kernel_rfl) (by kernel_rfl) (by kernel_rfl) (fun _ _ _ h => h) (Or.inr ⟨by rfl, rfl⟩) (by assumption) ?_); (try simp only [List.getElem_toArray, List.getElem_cons_zero, List.getElem_cons_succ]); (try simp only [Act.put, List.setIfInBounds_toArray, List.set_cons_zero, List.set_cons_succ])
      (refine wpAnyH_take (i := 25) rfl (by kernel_rfl) (by kernel_rfl) (by kernel_rfl) (fun _ _ _ h => h) (Or.inr ⟨by rfl, rfl⟩) (by assumption) ?_); (try simp only [List.getElem_toArray, List.getElem_cons_zero, List.getElem_cons_succ]); (try simp only [Act.put, List.setIfInBounds_toArray, List.set_cons_zero, List.set_cons_succ])
      (refine wpAnyH_take (i := 26) rfl (by kernel_rfl) (by kernel_rfl) (by kernel_rfl) (fun _ _ _ h => h) (Or.inr ⟨by rfl, rfl⟩) (by assumption) ?_); (try simp only [List.getElem_toArray, List.getElem_cons_zero, List.getElem_cons_succ]); (try simp only [Act.put, List.setIfInBounds_toArray, List.set_cons_zero, List.set_cons_succ])
      (refine wpAnyH_take (i := 27) rfl (by kernel_rfl) (by kernel_rfl) (by kernel_rfl) (fun _ _ _ h => h) (Or.inr ⟨by rfl, rfl⟩) (by assumption) ?_); (try simp only [List.getElem_toArray, List.getElem_cons_zero, List.getElem_cons_succ]); (try simp only [Act.put, List.setIfInBounds_toArray, List.set_cons_zero, List.set_cons_succ])
      (refine wpAnyH_take (i := 28) rfl (by kernel_rfl) (by kernel_rfl) (by kernel_rfl) (fun _ _ _ h => h) (Or.inr ⟨by rfl, rfl⟩) (by assumption) ?_); (try simp only [List.getElem_toArray, List.getElem_cons_zero, List.getElem_cons_succ]); (try simp only [Act.put, List.setIfInBounds_toArray, List.set_cons_zero, List.set_cons_succ])
      (refine wpAnyH_take (i := 29) rfl (by kernel_rfl) (by kernel_rfl) (by kernel_rfl) (fun _ _ _ h => h) (Or.inr ⟨by rfl, rfl⟩) (by assumption) ?_); (try simp only [List.getElem_toArray, List.getElem_cons_zero, List.getElem_cons_succ]); (try simp only [Act.put, List.setIfInBounds_toArray, List.set_cons_zero, List.set_cons_succ])
      (refine wpAnyH_take (i := 30) (v := ?_) rfl (by kernel_rfl) (by kernel_rfl) (by kernel_rfl) (fun _ _ _ h => h) (Or.inl ⟨by rfl, ?_⟩) (by assumption) ?_; rotate_left; focus (intro w hSw; (try dsimp only at hSw); (try simp only [List.getElem_toArray, List.getElem_cons_zero, List.getElem_cons_succ]); go_simp; try with_reducible rfl)); (try simp only [List.getElem_toArray, List.getElem_cons_zero, List.getElem_cons_succ]); (try simp only [Act.put, List.setIfInBounds_toArray, List.set_cons_zero, List.set_cons_succ])
      (refine wpAnyH_take (i := 31) (v := ?_) rfl (by kernel_rfl) (by kernel_rfl) (by kernel_rfl) (fun _ _ _ h => h) (Or.inl ⟨by rfl, ?_⟩) (by assumption) ?_; rotate_left; focus (intro w hSw; (try dsimp only at hSw); (try simp only [List.getElem_toArray, List.getElem_cons_zero, List.getElem_cons_succ]); go_simp; try with_reducible rfl)); (try simp only [List.getElem_toArray, List.getElem_cons_zero, List.getElem_cons_succ]); (try simp only [Act.put, List.setIfInBounds_toArray, List.set_cons_zero, List.set_cons_succ])
      refine wpAnyH_done (by kernel_rfl) ?_ _
      go_wp2_with fail
      go_meet
      exact ⟨rfl, XL⟩
  case rest =>
    obtain ⟨rfl, xc⟩ := hcut
    generalize wc = w14 at *
    replace X := X.trans xc
    replace SO := SO.ext xc
    replace P := P.ext xc
    replace y0 := ((Ext.cell xc) _ _ hpg).trans y0
    replace y1 := ((Ext.cell xc) _ _ hpg).trans y1
    replace hpg := Nat.lt_of_lt_of_le hpg (Ext.size xc)
    replace TO := TO.ext xc
    replace R := R.ext xc
    replace O := O.ext xc
    clear hsm HL1 HL2
    have HATB := Lib.hid HAT.out
    go_wp2_with fail
    refine wp_region_held_drew (S := (fun W => W.cell? ⟨B, 0, none⟩ = some (.int .i64 hh) ∧ W.cell? ⟨B, 1, none⟩ = some (.int .i64 ep) ∧ W.cell? ⟨B, 2, none⟩ = some (.string r) ∧ W.cell? ⟨B, 3, none⟩ = some (.string p) ∧ W.cell? ⟨B, 4, none⟩ = some (.int .i64 S.at_) ∧ W.cell? ⟨B, 5, none⟩ = some (.slice a1 S.op.length c1) ∧ W.cell? ⟨B, 6, none⟩ = some (.slice a2 S.sh.length c2) ∧ W.cell? ⟨B, 7, none⟩ = some (.slice a3 S.si.length c3) ∧ W.cell? ⟨D, 0, none⟩ = some (.int .i64 hh) ∧ W.cell? ⟨D, 1, none⟩ = some (.int .i64 ep) ∧ W.cell? ⟨D, 2, none⟩ = some (.string r) ∧ W.cell? ⟨D, 3, none⟩ = some (.string p) ∧ W.cell? ⟨D, 4, none⟩ = some (.int .i64 S.at_) ∧ W.cell? ⟨D, 5, none⟩ = some (.slice d1 S.op.length e1) ∧ W.cell? ⟨D, 6, none⟩ = some (.slice d2 S.sh.length e2) ∧ W.cell? ⟨D, 7, none⟩ = some (.slice d3 S.si.length e3))) (by kernel_rfl) (by exact ⟨P.2.1 0 _ rfl, P.2.1 1 _ rfl, P.2.1 2 _ rfl, P.2.1 3 _ rfl, P.2.1 4 _ rfl, P.2.1 5 _ rfl, P.2.1 6 _ rfl, P.2.1 7 _ rfl, R.2.1 0 _ rfl, R.2.1 1 _ rfl, R.2.1 2 _ rfl, R.2.1 3 _ rfl, R.2.1 4 _ rfl, R.2.1 5 _ rfl, R.2.1 6 _ rfl, R.2.1 7 _ rfl⟩) (fun hHeld => ?_)
    have xd : Ext w14 w14.drew := (Ext.refl w14).drew
    replace X := X.trans xd
    replace SO := SO.ext xd
    replace P := P.ext xd
    replace y0 := ((Ext.cell xd) _ _ hpg).trans y0
    replace y1 := ((Ext.cell xd) _ _ hpg).trans y1
    replace hpg := Nat.lt_of_lt_of_le hpg (Ext.size xd)
    replace TO := TO.ext xd
    replace R := R.ext xd
    replace O := O.ext xd
    generalize w14.drew = v0 at *
    (refine wpAnyH_take (i := 0) (v := ?_) rfl (by kernel_rfl) (by kernel_rfl) (by kernel_rfl) (fun _ _ _ h => h) (Or.inl ⟨by rfl, ?_⟩) (by assumption) ?_; rotate_left; focus (intro w hSw; (try dsimp only at hSw); (try simp only [List.getElem_toArray, List.getElem_cons_zero]); go_simp; try with_reducible rfl)); (try simp only [List.getElem_toArray, List.getElem_cons_zero]); (try simp only [Act.put, List.setIfInBounds_toArray, List.set_cons_zero, List.set_cons_succ])
    (refine wpAnyH_take (i := 1) (v := ?_) rfl (by kernel_rfl) (by kernel_rfl) (by kernel_rfl) (fun _ _ _ h => h) (Or.inl ⟨by rfl, ?_⟩) (by assumption) ?_; rotate_left; focus (intro w hSw; (try dsimp only at hSw); (try simp only [List.getElem_toArray, List.getElem_cons_zero, List.getElem_cons_succ]); go_simp; try with_reducible rfl)); (try simp only [List.getElem_toArray, List.getElem_cons_zero, List.getElem_cons_succ]); (try simp only [Act.put, List.setIfInBounds_toArray, List.set_cons_zero, List.set_cons_succ])
    (refine wpAnyH_ready (rs := [2]) (by kernel_rfl) (by simp) ?_; refine AllReadyH.cons rfl (fun K hK => ?_) AllReadyH.nil; (try simp only [List.getElem_toArray, List.getElem_cons_zero, List.getElem_cons_succ]))
    go_simp
    go_at_call 48
    refine (impl_SealOk root hh ep r p _ _ _ S _ SO.1.strs SO.2.1.strs SO.2.2.1.strs HSF.out (HT.out.ext X)).mono ?_
    rw [HO.out]
    rintro e v1 ⟨rfl, xa⟩
    replace X := X.trans xa
    replace SO := SO.ext xa
    replace P := P.ext xa
    replace y0 := ((Ext.cell xa) _ _ hpg).trans y0
    replace y1 := ((Ext.cell xa) _ _ hpg).trans y1
    replace hpg := Nat.lt_of_lt_of_le hpg (Ext.size xa)
    replace TO := TO.ext xa
    replace R := R.ext xa
    replace O := O.ext xa
    (try dsimp only)
    refine hK.out _ _ (by exact ⟨P.2.1 0 _ rfl, P.2.1 1 _ rfl, P.2.1 2 _ rfl, P.2.1 3 _ rfl, P.2.1 4 _ rfl, P.2.1 5 _ rfl, P.2.1 6 _ rfl, P.2.1 7 _ rfl, R.2.1 0 _ rfl, R.2.1 1 _ rfl, R.2.1 2 _ rfl, R.2.1 3 _ rfl, R.2.1 4 _ rfl, R.2.1 5 _ rfl, R.2.1 6 _ rfl, R.2.1 7 _ rfl⟩) (fun hHeld => ?_)
    clear hK K
    (refine wpAnyH_take (i := 3) (v := ?_) rfl (by kernel_rfl) (by kernel_rfl) (by kernel_rfl) (fun _ _ _ h => h) (Or.inl ⟨by rfl, ?_⟩) (by assumption) ?_; rotate_left; focus (intro w hSw; (try dsimp only at hSw); (try simp only [List.getElem_toArray, List.getElem_cons_zero, List.getElem_cons_succ]); go_simp; try with_reducible rfl)); (try simp only [List.getElem_toArray, List.getElem_cons_zero, List.getElem_cons_succ]); (try simp only [Act.put, List.setIfInBounds_toArray, List.set_cons_zero, List.set_cons_succ])
    (refine wpAnyH_take (i := 4) (v := ?_) rfl (by kernel_rfl) (by kernel_rfl) (by kernel_rfl) (fun _ _ _ h => h) (Or.inl ⟨by rfl, ?_⟩) (by assumption) ?_; rotate_left; focus (intro w hSw; (try dsimp only at hSw); (try simp only [List.getElem_toArray, List.getElem_cons_zero, List.getElem_cons_succ]); go_simp; try with_reducible rfl)); (try simp only [List.getElem_toArray, List.getElem_cons_zero, List.getElem_cons_succ]); (try simp only [Act.put, List.setIfInBounds_toArray, List.set_cons_zero, List.set_cons_succ])
    (refine wpAnyH_take (i := 5) (v := ?_) rfl (by kernel_rfl) (by kernel_rfl) (by kernel_rfl) (fun _ _ _ h => h) (Or.inl ⟨by rfl, ?_⟩) (by assumption) ?_; rotate_left; focus (intro w hSw; (try dsimp only at hSw); (try simp only [List.getElem_toArray, List.getElem_cons_zero, List.getElem_cons_succ]); go_simp; try with_reducible rfl)); (try simp only [List.getElem_toArray, List.getElem_cons_zero, List.getElem_cons_succ]); (try simp only [Act.put, List.setIfInBounds_toArray, List.set_cons_zero, List.set_cons_succ])
    (refine wpAnyH_take (i := 7) (v := ?_) rfl (by kernel_rfl) (by kernel_rfl) (by kernel_rfl) (fun _ _ _ h => h) (Or.inl ⟨by rfl, ?_⟩) (by assumption) ?_; rotate_left; focus (intro w hSw; (try dsimp only at hSw); (try simp only [List.getElem_toArray, List.getElem_cons_zero, List.getElem_cons_succ]); go_simp; try with_reducible rfl)); (try simp only [List.getElem_toArray, List.getElem_cons_zero, List.getElem_cons_succ]); (try simp only [Act.put, List.setIfInBounds_toArray, List.set_cons_zero, List.set_cons_succ])
    (refine wpAnyH_ready (rs := [6]) (by kernel_rfl) (by simp) ?_; refine AllReadyH.cons rfl (fun K hK => ?_) AllReadyH.nil; (try simp only [List.getElem_toArray, List.getElem_cons_zero, List.getElem_cons_succ]))
    go_simp
    go_at_call 30
    refine (laws_turned root pg pc n0 n1 _ (by omega) hpg y0 y1 b0 b1).mono ?_
    rintro e v2 ⟨r3, rfl, hne3, -, -, xb⟩
    have HN3 := Lib.hid (HN.out r3 hne3)
    clear hne3
    replace X := X.trans xb
    replace SO := SO.ext xb
    replace P := P.ext xb
    replace y0 := ((Ext.cell xb) _ _ hpg).trans y0
    replace y1 := ((Ext.cell xb) _ _ hpg).trans y1
    replace hpg := Nat.lt_of_lt_of_le hpg (Ext.size xb)
    replace TO := TO.ext xb
    replace R := R.ext xb
    replace O := O.ext xb
    (try dsimp only)
    refine hK.out _ _ (by exact ⟨P.2.1 0 _ rfl, P.2.1 1 _ rfl, P.2.1 2 _ rfl, P.2.1 3 _ rfl, P.2.1 4 _ rfl, P.2.1 5 _ rfl, P.2.1 6 _ rfl, P.2.1 7 _ rfl, R.2.1 0 _ rfl, R.2.1 1 _ rfl, R.2.1 2 _ rfl, R.2.1 3 _ rfl, R.2.1 4 _ rfl, R.2.1 5 _ rfl, R.2.1 6 _ rfl, R.2.1 7 _ rfl⟩) (fun hHeld => ?_)
    clear hK K
    (refine wpAnyH_ready (rs := [8]) (by kernel_rfl) (by simp) ?_; refine AllReadyH.cons rfl (fun K hK => ?_) AllReadyH.nil; (try simp only [List.getElem_toArray, List.getElem_cons_zero, List.getElem_cons_succ]))
    go_simp
    go_at_call 48
    refine (impl_SealOk r3 hh ep r p _ _ _ S _ SO.1.strs SO.2.1.strs SO.2.2.1.strs HSF.out (HT.out.ext X)).mono ?_
    rw [HN3.out]
    rintro e v3 ⟨rfl, xd⟩
    replace X := X.trans xd
    replace SO := SO.ext xd
    replace P := P.ext xd
    replace y0 := ((Ext.cell xd) _ _ hpg).trans y0
    replace y1 := ((Ext.cell xd) _ _ hpg).trans y1
    replace hpg := Nat.lt_of_lt_of_le hpg (Ext.size xd)
    replace TO := TO.ext xd
    replace R := R.ext xd
    replace O := O.ext xd
    (try dsimp only)
    refine hK.out _ _ (by exact ⟨P.2.1 0 _ rfl, P.2.1 1 _ rfl, P.2.1 2 _ rfl, P.2.1 3 _ rfl, P.2.1 4 _ rfl, P.2.1 5 _ rfl, P.2.1 6 _ rfl, P.2.1 7 _ rfl, R.2.1 0 _ rfl, R.2.1 1 _ rfl, R.2.1 2 _ rfl, R.2.1 3 _ rfl, R.2.1 4 _ rfl, R.2.1 5 _ rfl, R.2.1 6 _ rfl, R.2.1 7 _ rfl⟩) (fun hHeld => ?_)
    clear hK K
    (refine wpAnyH_take (i := 9) (v := ?_) rfl (by kernel_rfl) (by kernel_rfl) (by kernel_rfl) (fun _ _ _ h => h) (Or.inl ⟨by rfl, ?_⟩) (by assumption) ?_; rotate_left; focus (intro w hSw; (try dsimp only at hSw); (try simp only [List.getElem_toArray, List.getElem_cons_zero, List.getElem_cons_succ]); go_simp; try with_reducible rfl)); (try simp only [List.getElem_toArray, List.getElem_cons_zero, List.getElem_cons_succ]); (try simp only [Act.put, List.setIfInBounds_toArray, List.set_cons_zero, List.set_cons_succ])
    (refine wpAnyH_take (i := 10) (v := ?_) rfl (by kernel_rfl) (by kernel_rfl) (by kernel_rfl) (fun _ _ _ h => h) (Or.inl ⟨by rfl, ?_⟩) (by assumption) ?_; rotate_left; focus (intro w hSw; (try dsimp only at hSw); (try simp only [List.getElem_toArray, List.getElem_cons_zero, List.getElem_cons_succ]); go_simp; try with_reducible rfl)); (try simp only [List.getElem_toArray, List.getElem_cons_zero, List.getElem_cons_succ]); (try simp only [Act.put, List.setIfInBounds_toArray, List.set_cons_zero, List.set_cons_succ])
    (refine wpAnyH_take (i := 11) (v := ?_) rfl (by kernel_rfl) (by kernel_rfl) (by kernel_rfl) (fun _ _ _ h => h) (Or.inl ⟨by rfl, ?_⟩) (by assumption) ?_; rotate_left; focus (intro w hSw; (try dsimp only at hSw); (try simp only [List.getElem_toArray, List.getElem_cons_zero, List.getElem_cons_succ]); go_simp; try with_reducible rfl)); (try simp only [List.getElem_toArray, List.getElem_cons_zero, List.getElem_cons_succ]); (try simp only [Act.put, List.setIfInBounds_toArray, List.set_cons_zero, List.set_cons_succ])
    (refine wpAnyH_take (i := 12) (v := ?_) rfl (by kernel_rfl) (by kernel_rfl) (by kernel_rfl) (fun _ _ _ h => h) (Or.inl ⟨by rfl, ?_⟩) (by assumption) ?_; rotate_left; focus (intro w hSw; (try dsimp only at hSw); (try simp only [List.getElem_toArray, List.getElem_cons_zero, List.getElem_cons_succ]); go_simp; try with_reducible rfl)); (try simp only [List.getElem_toArray, List.getElem_cons_zero, List.getElem_cons_succ]); (try simp only [Act.put, List.setIfInBounds_toArray, List.set_cons_zero, List.set_cons_succ])
    (refine wpAnyH_take (i := 13) (v := ?_) rfl (by kernel_rfl) (by kernel_rfl) (by kernel_rfl) (fun _ _ _ h => h) (Or.inl ⟨by rfl, ?_⟩) (by assumption) ?_; rotate_left; focus (intro w hSw; (try dsimp only at hSw); (try simp only [List.getElem_toArray, List.getElem_cons_zero, List.getElem_cons_succ]); go_simp; try with_reducible rfl)); (try simp only [List.getElem_toArray, List.getElem_cons_zero, List.getElem_cons_succ]); (try simp only [Act.put, List.setIfInBounds_toArray, List.set_cons_zero, List.set_cons_succ])
    (refine wpAnyH_take (i := 14) (v := ?_) rfl (by kernel_rfl) (by kernel_rfl) (by kernel_rfl) (fun _ _ _ h => h) (Or.inl ⟨by rfl, ?_⟩) (by assumption) ?_; rotate_left; focus (intro w hSw; (try dsimp only at hSw); (try simp only [List.getElem_toArray, List.getElem_cons_zero, List.getElem_cons_succ]); go_simp; try with_reducible rfl)); (try simp only [List.getElem_toArray, List.getElem_cons_zero, List.getElem_cons_succ]); (try simp only [Act.put, List.setIfInBounds_toArray, List.set_cons_zero, List.set_cons_succ])
    (refine wpAnyH_take (i := 15) (v := ?_) rfl (by kernel_rfl) (by kernel_rfl) (by kernel_rfl) (fun _ _ _ h => h) (Or.inl ⟨by rfl, ?_⟩) (by assumption) ?_; rotate_left; focus (intro w hSw; (try dsimp only at hSw); (try simp only [List.getElem_toArray, List.getElem_cons_zero, List.getElem_cons_succ]); go_simp; try with_reducible rfl)); (try simp only [List.getElem_toArray, List.getElem_cons_zero, List.getElem_cons_succ]); (try simp only [Act.put, List.setIfInBounds_toArray, List.set_cons_zero, List.set_cons_succ])
    (refine wpAnyH_take (i := 16) (v := ?_) rfl (by kernel_rfl) (by kernel_rfl) (by kernel_rfl) (fun _ _ _ h => h) (Or.inl ⟨by rfl, ?_⟩) (by assumption) ?_; rotate_left; focus (intro w hSw; (try dsimp only at hSw); (try simp only [List.getElem_toArray, List.getElem_cons_zero, List.getElem_cons_succ]); go_simp; try with_reducible rfl)); (try simp only [List.getElem_toArray, List.getElem_cons_zero, List.getElem_cons_succ]); (try simp only [Act.put, List.setIfInBounds_toArray, List.set_cons_zero, List.set_cons_succ])
    (refine wpAnyH_take (i := 17) (v := ?_) rfl (by kernel_rfl) (by kernel_rfl) (by kernel_rfl) (fun _ _ _ h => h) (Or.inl ⟨by rfl, ?_⟩) (by assumption) ?_; rotate_left; focus (intro w hSw; (try dsimp only at hSw); (try simp only [List.getElem_toArray, List.getElem_cons_zero, List.getElem_cons_succ]); go_simp; try with_reducible rfl)); (try simp only [List.getElem_toArray, List.getElem_cons_zero, List.getElem_cons_succ]); (try simp only [Act.put, List.setIfInBounds_toArray, List.set_cons_zero, List.set_cons_succ])
    (refine wpAnyH_take (i := 18) (v := ?_) rfl (by kernel_rfl) (by kernel_rfl) (by kernel_rfl) (fun _ _ _ h => h) (Or.inl ⟨by rfl, ?_⟩) (by assumption) ?_; rotate_left; focus (intro w hSw; (try dsimp only at hSw); (try simp only [List.getElem_toArray, List.getElem_cons_zero, List.getElem_cons_succ]); go_simp; try with_reducible rfl)); (try simp only [List.getElem_toArray, List.getElem_cons_zero, List.getElem_cons_succ]); (try simp only [Act.put, List.setIfInBounds_toArray, List.set_cons_zero, List.set_cons_succ])
    (refine wpAnyH_take (i := 19) (v := ?_) rfl (by kernel_rfl) (by kernel_rfl) (by kernel_rfl) (fun _ _ _ h => h) (Or.inl ⟨by rfl, ?_⟩) (by assumption) ?_; rotate_left; focus (intro w hSw; (try dsimp only at hSw); (try simp only [List.getElem_toArray, List.getElem_cons_zero, List.getElem_cons_succ]); go_simp; try with_reducible rfl)); (try simp only [List.getElem_toArray, List.getElem_cons_zero, List.getElem_cons_succ]); (try simp only [Act.put, List.setIfInBounds_toArray, List.set_cons_zero, List.set_cons_succ])
    (refine wpAnyH_ready (rs := [20]) (by kernel_rfl) (by simp) ?_; refine AllReadyH.cons rfl (fun K hK => ?_) AllReadyH.nil; (try simp only [List.getElem_toArray, List.getElem_cons_zero, List.getElem_cons_succ]))
    go_simp
    go_at_call 52
    refine (laws_sameSealT hh ep r p _ _ _ _ _ _ S _ TO.1.strs TO.2.1.strs TO.2.2.1.strs SO.1.strs SO.2.1.strs SO.2.2.1.strs).mono ?_
    rintro e v4 ⟨rfl, xe⟩
    replace X := X.trans xe
    replace SO := SO.ext xe
    replace P := P.ext xe
    replace y0 := ((Ext.cell xe) _ _ hpg).trans y0
    replace y1 := ((Ext.cell xe) _ _ hpg).trans y1
    replace hpg := Nat.lt_of_lt_of_le hpg (Ext.size xe)
    replace TO := TO.ext xe
    replace R := R.ext xe
    replace O := O.ext xe
    (try dsimp only)
    refine hK.out _ _ (by exact ⟨P.2.1 0 _ rfl, P.2.1 1 _ rfl, P.2.1 2 _ rfl, P.2.1 3 _ rfl, P.2.1 4 _ rfl, P.2.1 5 _ rfl, P.2.1 6 _ rfl, P.2.1 7 _ rfl, R.2.1 0 _ rfl, R.2.1 1 _ rfl, R.2.1 2 _ rfl, R.2.1 3 _ rfl, R.2.1 4 _ rfl, R.2.1 5 _ rfl, R.2.1 6 _ rfl, R.2.1 7 _ rfl⟩) (fun hHeld => ?_)
    clear hK K
    (refine wpAnyH_take (i := 21) (v := ?_) rfl (by kernel_rfl) (by kernel_rfl) (by kernel_rfl) (fun _ _ _ h => h) (Or.inl ⟨by rfl, ?_⟩) (by assumption) ?_; rotate_left; focus (intro w hSw; (try dsimp only at hSw); (try simp only [List.getElem_toArray, List.getElem_cons_zero, List.getElem_cons_succ]); go_simp; try with_reducible rfl)); (try simp only [List.getElem_toArray, List.getElem_cons_zero, List.getElem_cons_succ]); (try simp only [Act.put, List.setIfInBounds_toArray, List.set_cons_zero, List.set_cons_succ])
    (refine wpAnyH_take (i := 22) (v := ?_) rfl (by kernel_rfl) (by kernel_rfl) (by kernel_rfl) (fun _ _ _ h => h) (Or.inl ⟨by rfl, ?_⟩) (by assumption) ?_; rotate_left; focus (intro w hSw; (try dsimp only at hSw); (try simp only [List.getElem_toArray, List.getElem_cons_zero, List.getElem_cons_succ]); go_simp; try with_reducible rfl)); (try simp only [List.getElem_toArray, List.getElem_cons_zero, List.getElem_cons_succ]); (try simp only [Act.put, List.setIfInBounds_toArray, List.set_cons_zero, List.set_cons_succ])
    (refine wpAnyH_take (i := 23) (v := ?_) rfl (by kernel_rfl) (by kernel_rfl) (by kernel_rfl) (fun _ _ _ h => h) (Or.inl ⟨by rfl, ?_⟩) (by assumption) ?_; rotate_left; focus (intro w hSw; (try dsimp only at hSw); (try simp only [List.getElem_toArray, List.getElem_cons_zero, List.getElem_cons_succ]); go_simp; try with_reducible rfl)); (try simp only [List.getElem_toArray, List.getElem_cons_zero, List.getElem_cons_succ]); (try simp only [Act.put, List.setIfInBounds_toArray, List.set_cons_zero, List.set_cons_succ])
    (refine wpAnyH_take (i := 24) (v := ?_) rfl (by kernel_rfl) (by kernel_rfl) (by kernel_rfl) (fun _ _ _ h => h) (Or.inl ⟨by rfl, ?_⟩) (by assumption) ?_; rotate_left; focus (intro w hSw; (try dsimp only at hSw); (try simp only [List.getElem_toArray, List.getElem_cons_zero, List.getElem_cons_succ]); go_simp; try with_reducible rfl)); (try simp only [List.getElem_toArray, List.getElem_cons_zero, List.getElem_cons_succ]); (try simp only [Act.put, List.setIfInBounds_toArray, List.set_cons_zero, List.set_cons_succ])
    (refine wpAnyH_take (i := 25) (v := ?_) rfl (by kernel_rfl) (by kernel_rfl) (by kernel_rfl) (fun _ _ _ h => h) (Or.inl ⟨by rfl, ?_⟩) (by assumption) ?_; rotate_left; focus (intro w hSw; (try dsimp only at hSw); (try simp only [List.getElem_toArray, List.getElem_cons_zero, List.getElem_cons_succ]); go_simp; try with_reducible rfl)); (try simp only [List.getElem_toArray, List.getElem_cons_zero, List.getElem_cons_succ]); (try simp only [Act.put, List.setIfInBounds_toArray, List.set_cons_zero, List.set_cons_succ])
    (refine wpAnyH_take (i := 26) (v := ?_) rfl (by kernel_rfl) (by kernel_rfl) (by kernel_rfl) (fun _ _ _ h => h) (Or.inl ⟨by rfl, ?_⟩) (by assumption) ?_; rotate_left; focus (intro w hSw; (try dsimp only at hSw); (try simp only [List.getElem_toArray, List.getElem_cons_zero, List.getElem_cons_succ]); go_simp; try with_reducible rfl)); (try simp only [List.getElem_toArray, List.getElem_cons_zero, List.getElem_cons_succ]); (try simp only [Act.put, List.setIfInBounds_toArray, List.set_cons_zero, List.set_cons_succ])
    (refine wpAnyH_take (i := 27) (v := ?_) rfl (by kernel_rfl) (by kernel_rfl) (by kernel_rfl) (fun _ _ _ h => h) (Or.inl ⟨by rfl, ?_⟩) (by assumption) ?_; rotate_left; focus (intro w hSw; (try dsimp only at hSw); (try simp only [List.getElem_toArray, List.getElem_cons_zero, List.getElem_cons_succ]); go_simp; try with_reducible rfl)); (try simp only [List.getElem_toArray, List.getElem_cons_zero, List.getElem_cons_succ]); (try simp only [Act.put, List.setIfInBounds_toArray, List.set_cons_zero, List.set_cons_succ])
    (refine wpAnyH_take (i := 28) (v := ?_) rfl (by kernel_rfl) (by kernel_rfl) (by kernel_rfl) (fun _ _ _ h => h) (Or.inl ⟨by rfl, ?_⟩) (by assumption) ?_; rotate_left; focus (intro w hSw; (try dsimp only at hSw); (try simp only [List.getElem_toArray, List.getElem_cons_zero, List.getElem_cons_succ]); go_simp; try with_reducible rfl)); (try simp only [List.getElem_toArray, List.getElem_cons_zero, List.getElem_cons_succ]); (try simp only [Act.put, List.setIfInBounds_toArray, List.set_cons_zero, List.set_cons_succ])
    (refine wpAnyH_ready (rs := [29]) (by kernel_rfl) (by simp) ?_; refine AllReadyH.cons rfl (fun K hK => ?_) AllReadyH.nil; (try simp only [List.getElem_toArray, List.getElem_cons_zero, List.getElem_cons_succ]))
    go_simp
    go_at_call 53
    refine (impl_SealAt ep _).mono ?_
    rw [← HATB.out]
    rintro e w' ⟨rfl, rfl⟩
    (try dsimp only)
    refine hK.out _ _ (by exact ⟨P.2.1 0 _ rfl, P.2.1 1 _ rfl, P.2.1 2 _ rfl, P.2.1 3 _ rfl, P.2.1 4 _ rfl, P.2.1 5 _ rfl, P.2.1 6 _ rfl, P.2.1 7 _ rfl, R.2.1 0 _ rfl, R.2.1 1 _ rfl, R.2.1 2 _ rfl, R.2.1 3 _ rfl, R.2.1 4 _ rfl, R.2.1 5 _ rfl, R.2.1 6 _ rfl, R.2.1 7 _ rfl⟩) (fun hHeld => ?_)
    clear hK K
    (refine wpAnyH_take (i := 30) (v := .bool true) rfl (by kernel_rfl) (by kernel_rfl) (by kernel_rfl) (fun _ _ _ h => h) (Or.inl ⟨by rfl, ?_⟩) (by assumption) ?_; focus (intro w hSw; (try dsimp only at hSw); (try simp only [List.getElem_toArray, List.getElem_cons_zero, List.getElem_cons_succ]); go_simp; (try simp))); (try simp only [List.getElem_toArray, List.getElem_cons_zero, List.getElem_cons_succ]); (try simp only [Act.put, List.setIfInBounds_toArray, List.set_cons_zero, List.set_cons_succ])
    (refine wpAnyH_take (i := 31) (v := ?_) rfl (by kernel_rfl) (by kernel_rfl) (by kernel_rfl) (fun _ _ _ h => h) (Or.inl ⟨by rfl, ?_⟩) (by assumption) ?_; rotate_left; focus (intro w hSw; (try dsimp only at hSw); (try simp only [List.getElem_toArray, List.getElem_cons_zero, List.getElem_cons_succ]); go_simp; try with_reducible rfl)); (try simp only [List.getElem_toArray, List.getElem_cons_zero, List.getElem_cons_succ]); (try simp only [Act.put, List.setIfInBounds_toArray, List.set_cons_zero, List.set_cons_succ])
    (refine wpAnyH_take (i := 32) (v := ?_) rfl (by kernel_rfl) (by kernel_rfl) (by kernel_rfl) (fun _ _ _ h => h) (Or.inl ⟨by rfl, ?_⟩) (by assumption) ?_; rotate_left; focus (intro w hSw; (try dsimp only at hSw); (try simp only [List.getElem_toArray, List.getElem_cons_zero, List.getElem_cons_succ]); go_simp; try with_reducible rfl)); (try simp only [List.getElem_toArray, List.getElem_cons_zero, List.getElem_cons_succ]); (try simp only [Act.put, List.setIfInBounds_toArray, List.set_cons_zero, List.set_cons_succ])
    refine wpAnyH_done (by kernel_rfl) ?_ _
    go_wp2
    go_ret
    exact ⟨rfl, X⟩
end Go.Proofs.YtliebkhfddmhjaaDoor
