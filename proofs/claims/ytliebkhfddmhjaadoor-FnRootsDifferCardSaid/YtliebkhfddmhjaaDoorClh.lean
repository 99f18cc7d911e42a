/- The laws' own function clash. -/
import Derived.Test.YtliebkhfddmhjaaDoorClB
import Derived.Test.YtliebkhfddmhjaaDoorStrA
namespace Go.Proofs.YtliebkhfddmhjaaDoor
open Go.RowKit

theorem clN_eq {a b : List ByteArray} {wd : Int} {k : Nat} (h : a.getD k ⟨#[]⟩ = b.getD k ⟨#[]⟩) : clN a b wd (k + 1) = clN a b wd k := by rw [clN, if_pos h]
theorem clN_ne {a b : List ByteArray} {wd : Int} {k : Nat} (h : ¬ a.getD k ⟨#[]⟩ = b.getD k ⟨#[]⟩) : clN a b wd (k + 1) = decide (cutT (a.getD k ⟨#[]⟩) wd = cutT (b.getD k ⟨#[]⟩) wd) := by rw [clN, if_neg h]
theorem str_cell0 {w : World} {a : Option Addr} {n c : Nat} {ys : List ByteArray} (h : Strs w (.slice a n c) ys) (hn : 0 < ys.length) : ∃ b o, a = some ⟨b, o, none⟩ ∧ b < w.heap.size ∧ ∀ t, t < ys.length → w.cell? ⟨b, o + t, none⟩ = some (.string (ys.getD t ⟨#[]⟩)) := by
  obtain ⟨-, a1, c1, hv, -, -, g⟩ := h
  injection hv with e1 e2 e3
  subst e1
  rcases g with g | ⟨b, o, rfl, hb, g⟩
  · omega
  · refine ⟨b, o, rfl, hb, fun t ht => g t _ ?_⟩
    rw [List.getElem?_map, List.getD_eq_getElem?_getD, List.getElem?_eq_getElem ht]
    rfl
theorem getD_mem {xs : List ByteArray} {k : Nat} (h : k < xs.length) : xs.getD k ⟨#[]⟩ ∈ xs := by
  rw [List.getD_eq_getElem?_getD, List.getElem?_eq_getElem h]
  exact List.getElem_mem h
set_option maxHeartbeats 1600000 in
theorem laws_clash (v1 v2 : Value) (xs ys : List ByteArray) (wd : Int) (w : World) (h1 : Strs w v1 xs) (h2 : Strs w v2 ys) (hs : ∀ s ∈ xs, s.size ≤ 1073741824) (ht : ∀ s ∈ ys, s.size ≤ 1073741824) :
    Calls Tryd.prog 50 #[v1, v2, .int .i64 wd] w fun e w' => e = .returned (.bool (clB xs ys wd)) ∧ Ext w w' := by
  obtain ⟨a1, c1, rfl⟩ := h1.form
  obtain ⟨a2, c2, rfl⟩ := h2.form
  by_cases hlen : xs.length = ys.length
  case neg =>
    have hb : ((xs.length : Int) != ys.length) = true := by simp; omega
    have R := Lib.hid (show clB xs ys wd = false by rw [clB, if_neg hlen])
    clear hlen
    go_enter Tryd.func50, Tryd.ntmps50
    go_wp2
    go_ret
    exact ⟨ret_bool R.out.symm, Ext.refl _⟩
  have hb : ((xs.length : Int) != ys.length) = false := by simp; omega
  have R := Lib.hid (show clB xs ys wd = clN xs ys wd xs.length by rw [clB, if_pos hlen])
  have hl2 : (ys.length : Int) = xs.length := by omega
  have HLN := Lib.hid hlen
  have HL2 := Lib.hid hl2
  have HX := Lib.hid (fun (k : Nat) (hk : k < xs.length) => (str_cell0 h1 (by omega)))
  have HY := Lib.hid (fun (k : Nat) (hk : k < ys.length) => (str_cell0 h2 (by omega)))
  have HS := Lib.hid hs
  have HT := Lib.hid ht
  have hm : xs.length ≤ maxLen := by obtain ⟨-, a9, c9, he, hc9, hm9, -⟩ := h1; injection he with e1 e2 e3; omega
  unfold maxLen at hm
  clear hlen hl2 hs ht h1 h2
  go_enter Tryd.func50, Tryd.ntmps50
  go_wp2
  go_loopw [7] (fun i wr => ∃ k : Nat, k ≤ xs.length ∧ i = .int .i64 ((k : Int) - 1) ∧ clN xs ys wd xs.length = clN xs ys wd k ∧ Ext w wr) (fun i _ => (intOf i + 1).toNat)
  case atStart => exact ⟨xs.length, Nat.le_refl _, rfl, rfl, Ext.refl _⟩
  case round =>
    obtain ⟨k, hk, rfl, hcl, X⟩ := hrel
    have HC := Lib.hid hcl
    clear hcl
    cases k with
    | zero =>
      have R2 := Lib.hid (show clB xs ys wd = false from R.out.trans HC.out)
      go_wp2
      go_ret
      exact ⟨ret_bool R2.out.symm, X⟩
    | succ k =>
      have e1 : (((k + 1 : Nat) : Int) - 1) = (k : Int) := by omega
      rw [e1]
      clear e1
      have hkx : k < xs.length := by omega
      have hky : k < ys.length := by have := HLN.out; omega
      obtain ⟨bx, ox, rfl, lx, cx⟩ := HX.out k hkx
      obtain ⟨by_, oy, rfl, ly, cy⟩ := HY.out k hky
      have d1 := (X.cell _ _ lx).trans (cx k hkx)
      have d2 := (X.cell _ _ ly).trans (cy k hky)
      have j0 : (0 : Int) ≤ (k : Int) := by omega
      have j1 : (k : Int) < xs.length := by omega
      have j2 : (k : Int) < ys.length := by have := HL2.out; omega
      have zx := HS.out _ (getD_mem hkx)
      have zy := HT.out _ (getD_mem hky)
      have lxr := Nat.lt_of_lt_of_le lx X.size
      have lyr := Nat.lt_of_lt_of_le ly X.size
      clear cx cy
      by_cases hq : xs.getD k ⟨#[]⟩ = ys.getD k ⟨#[]⟩
      · have HE := Lib.hid (clN_eq (wd := wd) hq)
        rw [hq] at d1
        have hqb : ((ys.getD k ⟨#[]⟩).toList == (ys.getD k ⟨#[]⟩).toList) = true := by simp
        have hqc : ((ys.getD k ⟨#[]⟩).toList != (ys.getD k ⟨#[]⟩).toList) = false := by simp
        generalize ys.getD k ⟨#[]⟩ = b at *
        clear hq zx
        go_wp2
        go_quiet (fail)
        go_wp2
        go_roundw
        case rel => exact ⟨k, by omega, rfl, HC.out.trans HE.out, (by repeat (first | (with_reducible first | exact Ext.refl _ | assumption | apply Ext.alloc | apply Ext.drew | apply Ext.drewN | refine Ext.setCell ?_ ?_ _ | refine Ext.trans ?_ (by assumption)) | (show _ ≤ _; first | omega | (dsimp only; omega) | (simp; done) | (simp; omega))))⟩
        case measure => simp [intOf]
      · have HE := Lib.hid (clN_ne (wd := wd) hq)
        have hqb : ((xs.getD k ⟨#[]⟩).toList == (ys.getD k ⟨#[]⟩).toList) = false := by rw [toList_beq]; exact decide_eq_false hq
        have hqc : ((xs.getD k ⟨#[]⟩).toList != (ys.getD k ⟨#[]⟩).toList) = true := by simp only [bne, hqb]; rfl
        generalize xs.getD k ⟨#[]⟩ = a at *
        generalize ys.getD k ⟨#[]⟩ = b at *
        clear hq
        go_wp2
        go_quiet (fail)
        go_wp2_with fail
        have xq : Ext wr (wr.drewN nq) := (Ext.refl wr).drewN nq
        replace X := X.trans xq
        replace d1 := (xq.cell _ _ lxr).trans d1
        replace d2 := (xq.cell _ _ lyr).trans d2
        replace lxr := Nat.lt_of_lt_of_le lxr xq.size
        replace lyr := Nat.lt_of_lt_of_le lyr xq.size
        generalize wr.drewN nq = w3 at *
        clear xq hqb hqc
        refine wp_region_held_drew (S := (fun W => W.cell? ⟨bx, ox + k, none⟩ = some (.string a) ∧ W.cell? ⟨by_, oy + k, none⟩ = some (.string b))) (by kernel_rfl) (by exact ⟨d1, d2⟩) (fun hHeld => ?_)
        have xd : Ext w3 w3.drew := (Ext.refl w3).drew
        replace X := X.trans xd
        replace d1 := ((Ext.cell xd) _ _ lxr).trans d1
        replace d2 := ((Ext.cell xd) _ _ lyr).trans d2
        replace lxr := Nat.lt_of_lt_of_le lxr (Ext.size xd)
        replace lyr := Nat.lt_of_lt_of_le lyr (Ext.size xd)
        generalize w3.drew = w4 at *
        (refine wpAnyH_take (i := 0) (v := ?_) rfl (by kernel_rfl) (by kernel_rfl) (by kernel_rfl) (fun _ _ _ h => h) (Or.inl ⟨by rfl, ?_⟩) (by assumption) ?_; rotate_left; focus (intro w hSw; (try dsimp only at hSw); (try simp only [List.getElem_toArray, List.getElem_cons_zero]); go_simp; try with_reducible rfl)); (try simp only [List.getElem_toArray, List.getElem_cons_zero]); (try simp only [Act.put, List.setIfInBounds_toArray, List.set_cons_zero, List.set_cons_succ])
        (refine wpAnyH_take (i := 1) (v := ?_) rfl (by kernel_rfl) (by kernel_rfl) (by kernel_rfl) (fun _ _ _ h => h) (Or.inl ⟨by rfl, ?_⟩) (by assumption) ?_; rotate_left; focus (intro w hSw; (try dsimp only at hSw); (try simp only [List.getElem_toArray, List.getElem_cons_zero, List.getElem_cons_succ]); go_simp; try with_reducible rfl)); (try simp only [List.getElem_toArray, List.getElem_cons_zero, List.getElem_cons_succ]); (try simp only [Act.put, List.setIfInBounds_toArray, List.set_cons_zero, List.set_cons_succ])
        (refine wpAnyH_take (i := 2) (v := ?_) rfl (by kernel_rfl) (by kernel_rfl) (by kernel_rfl) (fun _ _ _ h => h) (Or.inl ⟨by rfl, ?_⟩) (by assumption) ?_; rotate_left; focus (intro w hSw; (try dsimp only at hSw); (try simp only [List.getElem_toArray, List.getElem_cons_zero, List.getElem_cons_succ]); go_simp; try with_reducible rfl)); (try simp only [List.getElem_toArray, List.getElem_cons_zero, List.getElem_cons_succ]); (try simp only [Act.put, List.setIfInBounds_toArray, List.set_cons_zero, List.set_cons_succ])
        (refine wpAnyH_take (i := 3) (v := ?_) rfl (by kernel_rfl) (by kernel_rfl) (by kernel_rfl) (fun _ _ _ h => h) (Or.inl ⟨by rfl, ?_⟩) (by assumption) ?_; rotate_left; focus (intro w hSw; (try dsimp only at hSw); (try simp only [List.getElem_toArray, List.getElem_cons_zero, List.getElem_cons_succ]); go_simp; try with_reducible rfl)); (try simp only [List.getElem_toArray, List.getElem_cons_zero, List.getElem_cons_succ]); (try simp only [Act.put, List.setIfInBounds_toArray, List.set_cons_zero, List.set_cons_succ])
        (refine wpAnyH_take (i := 4) (v := ?_) rfl (by kernel_rfl) (by kernel_rfl) (by kernel_rfl) (fun _ _ _ h => h) (Or.inl ⟨by rfl, ?_⟩) (by assumption) ?_; rotate_left; focus (intro w hSw; (try dsimp only at hSw); (try simp only [List.getElem_toArray, List.getElem_cons_zero, List.getElem_cons_succ]); go_simp; try with_reducible rfl)); (try simp only [List.getElem_toArray, List.getElem_cons_zero, List.getElem_cons_succ]); (try simp only [Act.put, List.setIfInBounds_toArray, List.set_cons_zero, List.set_cons_succ])
        (refine wpAnyH_take (i := 6) (v := ?_) rfl (by kernel_rfl) (by kernel_rfl) (by kernel_rfl) (fun _ _ _ h => h) (Or.inl ⟨by rfl, ?_⟩) (by assumption) ?_; rotate_left; focus (intro w hSw; (try dsimp only at hSw); (try simp only [List.getElem_toArray, List.getElem_cons_zero, List.getElem_cons_succ]); go_simp; try with_reducible rfl)); (try simp only [List.getElem_toArray, List.getElem_cons_zero, List.getElem_cons_succ]); (try simp only [Act.put, List.setIfInBounds_toArray, List.set_cons_zero, List.set_cons_succ])
        (refine wpAnyH_take (i := 7) (v := ?_) rfl (by kernel_rfl) (by kernel_rfl) (by kernel_rfl) (fun _ _ _ h => h) (Or.inl ⟨by rfl, ?_⟩) (by assumption) ?_; rotate_left; focus (intro w hSw; (try dsimp only at hSw); (try simp only [List.getElem_toArray, List.getElem_cons_zero, List.getElem_cons_succ]); go_simp; try with_reducible rfl)); (try simp only [List.getElem_toArray, List.getElem_cons_zero, List.getElem_cons_succ]); (try simp only [Act.put, List.setIfInBounds_toArray, List.set_cons_zero, List.set_cons_succ])
        (refine wpAnyH_take (i := 8) (v := ?_) rfl (by kernel_rfl) (by kernel_rfl) (by kernel_rfl) (fun _ _ _ h => h) (Or.inl ⟨by rfl, ?_⟩) (by assumption) ?_; rotate_left; focus (intro w hSw; (try dsimp only at hSw); (try simp only [List.getElem_toArray, List.getElem_cons_zero, List.getElem_cons_succ]); go_simp; try with_reducible rfl)); (try simp only [List.getElem_toArray, List.getElem_cons_zero, List.getElem_cons_succ]); (try simp only [Act.put, List.setIfInBounds_toArray, List.set_cons_zero, List.set_cons_succ])
        (refine wpAnyH_take (i := 9) (v := ?_) rfl (by kernel_rfl) (by kernel_rfl) (by kernel_rfl) (fun _ _ _ h => h) (Or.inl ⟨by rfl, ?_⟩) (by assumption) ?_; rotate_left; focus (intro w hSw; (try dsimp only at hSw); (try simp only [List.getElem_toArray, List.getElem_cons_zero, List.getElem_cons_succ]); go_simp; try with_reducible rfl)); (try simp only [List.getElem_toArray, List.getElem_cons_zero, List.getElem_cons_succ]); (try simp only [Act.put, List.setIfInBounds_toArray, List.set_cons_zero, List.set_cons_succ])
        (refine wpAnyH_take (i := 10) (v := ?_) rfl (by kernel_rfl) (by kernel_rfl) (by kernel_rfl) (fun _ _ _ h => h) (Or.inl ⟨by rfl, ?_⟩) (by assumption) ?_; rotate_left; focus (intro w hSw; (try dsimp only at hSw); (try simp only [List.getElem_toArray, List.getElem_cons_zero, List.getElem_cons_succ]); go_simp; try with_reducible rfl)); (try simp only [List.getElem_toArray, List.getElem_cons_zero, List.getElem_cons_succ]); (try simp only [Act.put, List.setIfInBounds_toArray, List.set_cons_zero, List.set_cons_succ])
        (refine wpAnyH_ready (rs := [5]) (by kernel_rfl) (by simp) ?_; refine AllReadyH.cons rfl (fun K hK => ?_) AllReadyH.nil; (try simp only [List.getElem_toArray, List.getElem_cons_zero, List.getElem_cons_succ]))
        go_simp
        go_at_call 37
        refine (spec_CutDigest a wd _ zx).mono ?_
        rintro e w5 ⟨rfl, x5⟩
        replace X := X.trans x5
        replace d1 := ((Ext.cell x5) _ _ lxr).trans d1
        replace d2 := ((Ext.cell x5) _ _ lyr).trans d2
        replace lxr := Nat.lt_of_lt_of_le lxr (Ext.size x5)
        replace lyr := Nat.lt_of_lt_of_le lyr (Ext.size x5)
        (try dsimp only)
        refine hK.out _ _ (by exact ⟨d1, d2⟩) (fun hHeld => ?_)
        clear hK K
        (refine wpAnyH_ready (rs := [11]) (by kernel_rfl) (by simp) ?_; refine AllReadyH.cons rfl (fun K hK => ?_) AllReadyH.nil; (try simp only [List.getElem_toArray, List.getElem_cons_zero, List.getElem_cons_succ]))
        go_simp
        go_at_call 37
        refine (spec_CutDigest b wd _ zy).mono ?_
        rintro e w6 ⟨rfl, x6⟩
        replace X := X.trans x6
        replace d1 := ((Ext.cell x6) _ _ lxr).trans d1
        replace d2 := ((Ext.cell x6) _ _ lyr).trans d2
        replace lxr := Nat.lt_of_lt_of_le lxr (Ext.size x6)
        replace lyr := Nat.lt_of_lt_of_le lyr (Ext.size x6)
        (try dsimp only)
        refine hK.out _ _ (by exact ⟨d1, d2⟩) (fun hHeld => ?_)
        clear hK K
        (refine wpAnyH_take (i := 12) (v := ?_) rfl (by kernel_rfl) (by kernel_rfl) (by kernel_rfl) (fun _ _ _ h => h) (Or.inl ⟨by rfl, ?_⟩) (by assumption) ?_; rotate_left; focus (intro w hSw; (try dsimp only at hSw); (try simp only [List.getElem_toArray, List.getElem_cons_zero, List.getElem_cons_succ]); go_simp; try with_reducible rfl)); (try simp only [List.getElem_toArray, List.getElem_cons_zero, List.getElem_cons_succ]); (try simp only [Act.put, List.setIfInBounds_toArray, List.set_cons_zero, List.set_cons_succ])
        (refine wpAnyH_take (i := 13) (v := ?_) rfl (by kernel_rfl) (by kernel_rfl) (by kernel_rfl) (fun _ _ _ h => h) (Or.inl ⟨by rfl, ?_⟩) (by assumption) ?_; rotate_left; focus (intro w hSw; (try dsimp only at hSw); (try simp only [List.getElem_toArray, List.getElem_cons_zero, List.getElem_cons_succ]); go_simp; try with_reducible rfl)); (try simp only [List.getElem_toArray, List.getElem_cons_zero, List.getElem_cons_succ]); (try simp only [Act.put, List.setIfInBounds_toArray, List.set_cons_zero, List.set_cons_succ])
        refine wpAnyH_done (by kernel_rfl) ?_ _
        go_wp2
        go_ret
        exact ⟨ret_bool (by rw [R.out, HC.out, HE.out, toList_beq]), X⟩
end Go.Proofs.YtliebkhfddmhjaaDoor
