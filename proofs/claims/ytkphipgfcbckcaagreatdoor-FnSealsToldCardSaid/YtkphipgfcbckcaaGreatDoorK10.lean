/- L14d, SgnB, StH. -/
import Derived.Test.YtkphipgfcbckcaaGreatDoorK9
import Derived.Deep.DeepCutAuto
namespace Go.Proofs.YtkphipgfcbckcaaGreatDoor
open Go.RowKit

theorem strs_tl {w : World} {g n c : Nat} {xs : List ByteArray} (h : Strs w (.slice (some ⟨g, 0, none⟩) n c) xs) (hn : 1 < xs.length) : Strs w (.slice (some ⟨g, 1, none⟩) (xs.drop 1).length (c - 1)) (xs.drop 1) := by
  obtain ⟨-, a1, c1, hv, hc, hm, hg⟩ := h
  injection hv with e1 e2 e3
  subst e3
  have hl : (xs.drop 1).length = xs.length - 1 := by rw [List.length_drop]
  rcases hg with h0 | ⟨b, o, rfl, hb, hg⟩
  · omega
  · injection e1 with e1
    injection e1 with q1 q2
    subst q1 q2
    refine ⟨by simp, some ⟨g, 1, none⟩, c - 1, rfl, by omega, by omega, Or.inr ⟨g, 1, rfl, hb, fun j u hu => ?_⟩⟩
    have h1 := hg (1 + j) u (by rw [← hu, List.map_drop, List.getElem?_drop])
    rw [Nat.zero_add] at h1
    exact h1
set_option maxRecDepth 100000 in
set_option maxHeartbeats 12800000 in
theorem spec_DrawSealHead (v : Value) (bs : List Int) (w : World) (h : Code w w.heap.size v bs) (hl : bs.length ≤ 1048576) :
    Calls Tryz.prog 5 #[v] w fun e w' => ∃ (seed : ByteArray) (pool : List ByteArray) (a : Option Addr) (c : Nat) (hh ep : Int) (r p : ByteArray), e = .returned (.tuple #[.string seed, .slice a pool.length c, .agg #[.int .i64 hh, .int .i64 ep, .string r, .string p]]) ∧ (∀ s ∈ pool, s.size ≤ maxLen) ∧ Strs w' (.slice a pool.length c) pool ∧ Solid (.slice a pool.length c) ∧ Ext w w' := by
  have e0 : Ext w (w.alloc (Obj.cells #[.int .i64 0, .int .i64 0, .string ⟨#[]⟩, .string ⟨#[]⟩] 26)) := (Ext.refl w).alloc _
  have R : Bx (w.alloc (Obj.cells #[.int .i64 0, .int .i64 0, .string ⟨#[]⟩, .string ⟨#[]⟩] 26)) w.heap.size [.int .i64 0, .int .i64 0, .string ⟨#[]⟩, .string ⟨#[]⟩] := Bx.new w _ _
  go_enter Tryz.func5, Tryz.ntmps5
  go_wp2_with fail
  generalize w.alloc (Obj.cells #[.int .i64 0, .int .i64 0, .string ⟨#[]⟩, .string ⟨#[]⟩] 26) = W0 at *
  refine (spec_l01New v bs _ (h.ext (Nat.le_refl _) e0 e0.size) hl).mono ?_
  rintro e w1 ⟨rfl, C, x1⟩
  have lb : w.heap.size < W0.heap.size := R.1
  replace R := R.ext x1
  have X := e0.trans x1
  clear x1 e0 h
  generalize W0.heap.size = b at *
  have hwb : w.heap.size ≤ b := by omega
  have nb1 : w.heap.size ≠ b := by omega
  go_wp2_with fail
  refine (spec_l01Below b 10 _ C (by decide)).mono ?_
  clear C
  rintro e w2 ⟨k, rfl, hk, C, M⟩
  replace R := R.mut M nb1
  replace X := X.mut M hwb
  clear M
  go_wp2_with fail
  refine (spec_l13Head b _ C).mono ?_
  clear C
  rintro e w3 ⟨l, rfl, hlf, C, M⟩
  replace R := R.mut M nb1
  replace X := X.mut M hwb
  clear M
  obtain ⟨hh, ep, r, p⟩ := l
  clear hlf
  dsimp only [Hd.val]
  have e3 : Ext w3 (w3.alloc (Obj.cells #[.int .i64 hh, .int .i64 ep, .string r, .string p] 26)) := (Ext.refl _).alloc _
  have H := Bx.new w3 #[.int .i64 hh, .int .i64 ep, .string r, .string p] 26
  have hr3 : w.heap.size < w3.heap.size := R.1
  replace R := R.ext e3
  replace C := C.ext e3
  replace X := X.trans e3
  have h0 := H.2.1 0 _ rfl
  cases hin : inB hh 0 2
  · have HIN := Lib.hid hin
    clear hin
    go_wp2_with fail
    generalize w3.alloc (Obj.cells #[.int .i64 hh, .int .i64 ep, .string r, .string p] 26) = w4 at *
    generalize w3.heap.size = hb at *
    clear e3 h0 C
    refine (spec_l01In _ _ _ _).mono ?_
    rw [HIN.out]
    rintro e w' ⟨rfl, rfl⟩
    go_wp2_with fail
    refine (spec_l14Seed 0 _ (by omega)).mono ?_
    rintro e w5 ⟨seed, rfl, hsd, x5⟩
    replace R := R.ext x5
    replace X := X.trans x5
    replace H := H.ext x5
    have HPF := Lib.hid (fun (s : ByteArray) (hs : s ∈ poolK seed 16) => show s.size ≤ maxLen by have := poolK_fit seed 16 s hs; unfold maxLen; omega)
    have hr5 := R.1
    go_wp2_with fail
    refine (spec_PoolOf seed _).mono ?_
    rintro e w6 ⟨pa, pc, rfl, own, x6⟩
    replace R := R.ext x6
    replace X := X.trans x6
    replace H := H.ext x6
    obtain ⟨g, c', he⟩ := own_form own (by rw [poolK_len]; omega)
    injection he with e1 e2 e3
    subst e1 e3
    clear e2
    have ST := Lib.hid own.strs
    have hlo := own_lt own g rfl
    clear own
    have HPL := Lib.hid (poolK_len seed 16)
    generalize poolK seed 16 = pool at *
    have hpc : 16 ≤ pc := by have := ST.out; obtain ⟨-, a9, c9, hv, hc9, -⟩ := this; injection hv with e1 e2 e3; have := HPL.out; omega
    have hpi : (16 : Int) ≤ pc := by omega
    by_cases h2 : 2 ≤ k
    · have hk0 : ¬ k = 0 := by omega
      have hk1 : ¬ k = 1 := by omega
      have hkb0 : (k == 0) = false := beq_eq_false_iff_ne.2 hk0
      have hkb1 : (k == 1) = false := beq_eq_false_iff_ne.2 hk1
      go_upto_region 13 with (fail)
      refine wp_region_held_drew (S := (fun W => W.cell? ⟨hb, 0, none⟩ = some (.int .i64 hh) ∧ W.cell? ⟨hb, 1, none⟩ = some (.int .i64 ep) ∧ W.cell? ⟨hb, 2, none⟩ = some (.string r) ∧ W.cell? ⟨hb, 3, none⟩ = some (.string p))) (by kernel_rfl) (by exact ⟨H.2.1 0 _ rfl, H.2.1 1 _ rfl, H.2.1 2 _ rfl, H.2.1 3 _ rfl⟩) (fun hHeld => ?_)
      have xd : Ext w6 w6.drew := (Ext.refl w6).drew
      replace R := R.ext xd
      replace X := X.trans xd
      replace H := H.ext xd
      replace ST := Lib.hid (ST.out.ext xd)
      generalize w6.drew = w7 at *
      clear xd
      have q0 := H.2.1 0 _ rfl
      have q1 := H.2.1 1 _ rfl
      have q2 := H.2.1 2 _ rfl
      have q3 := H.2.1 3 _ rfl
      (refine wpAnyH_take (i := 0) (v := ?_) rfl (by kernel_rfl) (by kernel_rfl) (by kernel_rfl) (fun _ _ _ h => h) (Or.inl ⟨by rfl, ?_⟩) (by assumption) ?_; rotate_left; focus (intro w hSw; (try dsimp only at hSw); (try simp only [zk1, zk2]); go_simp; try with_reducible rfl)); (try simp only [zk1, zk2]); (try simp only [Act.put, zk4, zk5, zk6])
      (refine wpAnyH_take (i := 1) (v := ?_) rfl (by kernel_rfl) (by kernel_rfl) (by kernel_rfl) (fun _ _ _ h => h) (Or.inl ⟨by rfl, ?_⟩) (by assumption) ?_; rotate_left; focus (intro w hSw; (try dsimp only at hSw); (try simp only [zk1, zk2, zk3]); go_simp; try with_reducible rfl)); (try simp only [zk1, zk2, zk3]); (try simp only [Act.put, zk4, zk5, zk6])
      (refine wpAnyH_take (i := 2) (v := ?_) rfl (by kernel_rfl) (by kernel_rfl) (by kernel_rfl) (fun _ _ _ h => h) (Or.inl ⟨by rfl, ?_⟩) (by assumption) ?_; rotate_left; focus (intro w hSw; (try dsimp only at hSw); (try simp only [zk1, zk2, zk3]); go_simp; try with_reducible rfl)); (try simp only [zk1, zk2, zk3]); (try simp only [Act.put, zk4, zk5, zk6])
      (refine wpAnyH_take (i := 3) (v := ?_) rfl (by kernel_rfl) (by kernel_rfl) (by kernel_rfl) (fun _ _ _ h => h) (Or.inl ⟨by rfl, ?_⟩) (by assumption) ?_; rotate_left; focus (intro w hSw; (try dsimp only at hSw); (try simp only [zk1, zk2, zk3]); go_simp; try with_reducible rfl)); (try simp only [zk1, zk2, zk3]); (try simp only [Act.put, zk4, zk5, zk6])
      (refine wpAnyH_take (i := 4) (v := ?_) rfl (by kernel_rfl) (by kernel_rfl) (by kernel_rfl) (fun _ _ _ h => h) (Or.inl ⟨by rfl, ?_⟩) (by assumption) ?_; rotate_left; focus (intro w hSw; (try dsimp only at hSw); (try simp only [zk1, zk2, zk3]); go_simp; try with_reducible rfl)); (try simp only [zk1, zk2, zk3]); (try simp only [Act.put, zk4, zk5, zk6])
      have z0 := R.2.1 0 _ rfl
      have z1 := R.2.1 1 _ rfl
      have z2 := R.2.1 2 _ rfl
      have z3 := R.2.1 3 _ rfl
      have f0 := R.2.2 0
      have f1 := R.2.2 1
      have f2 := R.2.2 2
      have f3 := R.2.2 3
      have R9 := ((((R.set 0 (.int .i64 hh) (by simp)).set 1 (.int .i64 ep) (by simp)).set 2 (.string r) (by simp)).set 3 (.string p) (by simp))
      have H9 := ((((H.far (c := w.heap.size) (by omega) 0 (.int .i64 hh)).far (c := w.heap.size) (by omega) 1 (.int .i64 ep)).far (c := w.heap.size) (by omega) 2 (.string r)).far (c := w.heap.size) (by omega) 3 (.string p))
      have X9 : Ext w ((((w7.setCell ⟨w.heap.size, 0, none⟩ (.int .i64 hh)).setCell ⟨w.heap.size, 1, none⟩ (.int .i64 ep)).setCell ⟨w.heap.size, 2, none⟩ (.string r)).setCell ⟨w.heap.size, 3, none⟩ (.string p)) := ((((X.setCell (by dsimp only; omega) (.int .i64 hh)).setCell (by dsimp only; omega) (.int .i64 ep)).setCell (by dsimp only; omega) (.string r)).setCell (by dsimp only; omega) (.string p))
      have hgw : w.heap.size < g := by omega
      have T9 : Strs ((((w7.setCell ⟨w.heap.size, 0, none⟩ (.int .i64 hh)).setCell ⟨w.heap.size, 1, none⟩ (.int .i64 ep)).setCell ⟨w.heap.size, 2, none⟩ (.string r)).setCell ⟨w.heap.size, 3, none⟩ (.string p)) (.slice (some ⟨g, 0, none⟩) 16 pc) pool := (strs_under (strs_under (strs_under (strs_under ST.out (over_at (b := w.heap.size + 1) hgw) (Nat.lt_succ_self w.heap.size) 0 (.int .i64 hh)) (over_at (b := w.heap.size + 1) hgw) (Nat.lt_succ_self w.heap.size) 1 (.int .i64 ep)) (over_at (b := w.heap.size + 1) hgw) (Nat.lt_succ_self w.heap.size) 2 (.string r)) (over_at (b := w.heap.size + 1) hgw) (Nat.lt_succ_self w.heap.size) 3 (.string p))
      (refine wpAnyH_ready (rs := [5]) (by kernel_rfl) (by simp) ?_; refine AllReadyH.cons rfl (fun K hK => ?_) AllReadyH.nil; (try simp only [zk1, zk2, zk3]))
      go_simp
      clear z0 f0 q0 z1 f1 q1 z2 f2 q2 z3 f3 q3 R H X
      have R := R9
      have H := H9
      have X := X9
      clear R9 H9 X9
      generalize (((w7.setCell ⟨w.heap.size, 0, none⟩ (.int .i64 hh)).setCell ⟨w.heap.size, 1, none⟩ (.int .i64 ep)).setCell ⟨w.heap.size, 2, none⟩ (.string r)).setCell ⟨w.heap.size, 3, none⟩ (.string p) = w8 at *
      (try dsimp only)
      refine hK.out _ _ (by exact ⟨H.2.1 0 _ rfl, H.2.1 1 _ rfl, H.2.1 2 _ rfl, H.2.1 3 _ rfl⟩) (fun hHeld => ?_)
      clear hK K
      refine wpAnyH_done (by kernel_rfl) ?_ _
      have k0 := R.2.1 0 _ rfl
      have k1 := R.2.1 1 _ rfl
      have k2 := R.2.1 2 _ rfl
      have k3 := R.2.1 3 _ rfl
      go_wp2
      refine bodyPost_ret (v := .tuple #[.string seed, .slice (some ⟨g, 0, none⟩) 16 pc, .agg #[.int .i64 hh, .int .i64 ep, .string r, .string p]]) (by simp [results, Tryz.results5, go_sem, k0, k1, k2, k3]) rfl ?_
      exact ⟨seed, pool, some ⟨g, 0, none⟩, pc, hh, ep, r, p, by rw [HPL.out], HPF.out, by rw [HPL.out]; exact T9, solid_some _ _ _ _, X⟩
    by_cases h0 : k = 0
    · subst h0
      go_upto_region 13 with (fail)
      refine wp_region_held_drew (S := (fun W => W.cell? ⟨hb, 0, none⟩ = some (.int .i64 hh) ∧ W.cell? ⟨hb, 1, none⟩ = some (.int .i64 ep) ∧ W.cell? ⟨hb, 2, none⟩ = some (.string r) ∧ W.cell? ⟨hb, 3, none⟩ = some (.string p))) (by kernel_rfl) (by exact ⟨H.2.1 0 _ rfl, H.2.1 1 _ rfl, H.2.1 2 _ rfl, H.2.1 3 _ rfl⟩) (fun hHeld => ?_)
      have xd : Ext w6 w6.drew := (Ext.refl w6).drew
      replace R := R.ext xd
      replace X := X.trans xd
      replace H := H.ext xd
      replace ST := Lib.hid (ST.out.ext xd)
      generalize w6.drew = w7 at *
      clear xd
      have q0 := H.2.1 0 _ rfl
      have q1 := H.2.1 1 _ rfl
      have q2 := H.2.1 2 _ rfl
      have q3 := H.2.1 3 _ rfl
      (refine wpAnyH_take (i := 0) (v := ?_) rfl (by kernel_rfl) (by kernel_rfl) (by kernel_rfl) (fun _ _ _ h => h) (Or.inl ⟨by rfl, ?_⟩) (by assumption) ?_; rotate_left; focus (intro w hSw; (try dsimp only at hSw); (try simp only [zk1, zk2]); go_simp; try with_reducible rfl)); (try simp only [zk1, zk2]); (try simp only [Act.put, zk4, zk5, zk6])
      (refine wpAnyH_take (i := 1) (v := ?_) rfl (by kernel_rfl) (by kernel_rfl) (by kernel_rfl) (fun _ _ _ h => h) (Or.inl ⟨by rfl, ?_⟩) (by assumption) ?_; rotate_left; focus (intro w hSw; (try dsimp only at hSw); (try simp only [zk1, zk2, zk3]); go_simp; try with_reducible rfl)); (try simp only [zk1, zk2, zk3]); (try simp only [Act.put, zk4, zk5, zk6])
      (refine wpAnyH_take (i := 2) (v := ?_) rfl (by kernel_rfl) (by kernel_rfl) (by kernel_rfl) (fun _ _ _ h => h) (Or.inl ⟨by rfl, ?_⟩) (by assumption) ?_; rotate_left; focus (intro w hSw; (try dsimp only at hSw); (try simp only [zk1, zk2, zk3]); go_simp; try with_reducible rfl)); (try simp only [zk1, zk2, zk3]); (try simp only [Act.put, zk4, zk5, zk6])
      (refine wpAnyH_take (i := 3) (v := ?_) rfl (by kernel_rfl) (by kernel_rfl) (by kernel_rfl) (fun _ _ _ h => h) (Or.inl ⟨by rfl, ?_⟩) (by assumption) ?_; rotate_left; focus (intro w hSw; (try dsimp only at hSw); (try simp only [zk1, zk2, zk3]); go_simp; try with_reducible rfl)); (try simp only [zk1, zk2, zk3]); (try simp only [Act.put, zk4, zk5, zk6])
      (refine wpAnyH_take (i := 4) (v := ?_) rfl (by kernel_rfl) (by kernel_rfl) (by kernel_rfl) (fun _ _ _ h => h) (Or.inl ⟨by rfl, ?_⟩) (by assumption) ?_; rotate_left; focus (intro w hSw; (try dsimp only at hSw); (try simp only [zk1, zk2, zk3]); go_simp; try with_reducible rfl)); (try simp only [zk1, zk2, zk3]); (try simp only [Act.put, zk4, zk5, zk6])
      have z0 := R.2.1 0 _ rfl
      have z1 := R.2.1 1 _ rfl
      have z2 := R.2.1 2 _ rfl
      have z3 := R.2.1 3 _ rfl
      have f0 := R.2.2 0
      have f1 := R.2.2 1
      have f2 := R.2.2 2
      have f3 := R.2.2 3
      have R9 := ((((R.set 0 (.int .i64 hh) (by simp)).set 1 (.int .i64 ep) (by simp)).set 2 (.string r) (by simp)).set 3 (.string p) (by simp))
      have H9 := ((((H.far (c := w.heap.size) (by omega) 0 (.int .i64 hh)).far (c := w.heap.size) (by omega) 1 (.int .i64 ep)).far (c := w.heap.size) (by omega) 2 (.string r)).far (c := w.heap.size) (by omega) 3 (.string p))
      have X9 : Ext w ((((w7.setCell ⟨w.heap.size, 0, none⟩ (.int .i64 hh)).setCell ⟨w.heap.size, 1, none⟩ (.int .i64 ep)).setCell ⟨w.heap.size, 2, none⟩ (.string r)).setCell ⟨w.heap.size, 3, none⟩ (.string p)) := ((((X.setCell (by dsimp only; omega) (.int .i64 hh)).setCell (by dsimp only; omega) (.int .i64 ep)).setCell (by dsimp only; omega) (.string r)).setCell (by dsimp only; omega) (.string p))
      have hgw : w.heap.size < g := by omega
      have T9 : Strs ((((w7.setCell ⟨w.heap.size, 0, none⟩ (.int .i64 hh)).setCell ⟨w.heap.size, 1, none⟩ (.int .i64 ep)).setCell ⟨w.heap.size, 2, none⟩ (.string r)).setCell ⟨w.heap.size, 3, none⟩ (.string p)) (.slice (some ⟨g, 0, none⟩) 16 pc) pool := (strs_under (strs_under (strs_under (strs_under ST.out (over_at (b := w.heap.size + 1) hgw) (Nat.lt_succ_self w.heap.size) 0 (.int .i64 hh)) (over_at (b := w.heap.size + 1) hgw) (Nat.lt_succ_self w.heap.size) 1 (.int .i64 ep)) (over_at (b := w.heap.size + 1) hgw) (Nat.lt_succ_self w.heap.size) 2 (.string r)) (over_at (b := w.heap.size + 1) hgw) (Nat.lt_succ_self w.heap.size) 3 (.string p))
      (refine wpAnyH_ready (rs := [5]) (by kernel_rfl) (by simp) ?_; refine AllReadyH.cons rfl (fun K hK => ?_) AllReadyH.nil; (try simp only [zk1, zk2, zk3]))
      go_simp
      clear z0 f0 q0 z1 f1 q1 z2 f2 q2 z3 f3 q3 R H X
      have R := R9
      have H := H9
      have X := X9
      clear R9 H9 X9
      generalize (((w7.setCell ⟨w.heap.size, 0, none⟩ (.int .i64 hh)).setCell ⟨w.heap.size, 1, none⟩ (.int .i64 ep)).setCell ⟨w.heap.size, 2, none⟩ (.string r)).setCell ⟨w.heap.size, 3, none⟩ (.string p) = w8 at *
      (try dsimp only)
      refine hK.out _ _ (by exact ⟨H.2.1 0 _ rfl, H.2.1 1 _ rfl, H.2.1 2 _ rfl, H.2.1 3 _ rfl⟩) (fun hHeld => ?_)
      clear hK K
      refine wpAnyH_done (by kernel_rfl) ?_ _
      have k0 := R.2.1 0 _ rfl
      have k1 := R.2.1 1 _ rfl
      have k2 := R.2.1 2 _ rfl
      have k3 := R.2.1 3 _ rfl
      go_wp2
      refine bodyPost_ret (v := .tuple #[.string ⟨#[111, 116, 104, 101, 114]⟩, .slice (some ⟨g, 0, none⟩) 16 pc, .agg #[.int .i64 hh, .int .i64 ep, .string r, .string p]]) (by simp [results, Tryz.results5, go_sem, k0, k1, k2, k3]) rfl ?_
      exact ⟨⟨#[111, 116, 104, 101, 114]⟩, pool, some ⟨g, 0, none⟩, pc, hh, ep, r, p, by rw [HPL.out], HPF.out, by rw [HPL.out]; exact T9, solid_some _ _ _ _, X⟩
    · obtain rfl : k = 1 := by omega
      have hd1 : ¬ pc = 1 := by omega
      go_upto_region 13 with (fail)
      refine wp_region_held_drew (S := (fun W => W.cell? ⟨hb, 0, none⟩ = some (.int .i64 hh) ∧ W.cell? ⟨hb, 1, none⟩ = some (.int .i64 ep) ∧ W.cell? ⟨hb, 2, none⟩ = some (.string r) ∧ W.cell? ⟨hb, 3, none⟩ = some (.string p))) (by kernel_rfl) (by exact ⟨H.2.1 0 _ rfl, H.2.1 1 _ rfl, H.2.1 2 _ rfl, H.2.1 3 _ rfl⟩) (fun hHeld => ?_)
      have xd : Ext w6 w6.drew := (Ext.refl w6).drew
      replace R := R.ext xd
      replace X := X.trans xd
      replace H := H.ext xd
      replace ST := Lib.hid (ST.out.ext xd)
      generalize w6.drew = w7 at *
      clear xd
      have q0 := H.2.1 0 _ rfl
      have q1 := H.2.1 1 _ rfl
      have q2 := H.2.1 2 _ rfl
      have q3 := H.2.1 3 _ rfl
      (refine wpAnyH_take (i := 0) (v := ?_) rfl (by kernel_rfl) (by kernel_rfl) (by kernel_rfl) (fun _ _ _ h => h) (Or.inl ⟨by rfl, ?_⟩) (by assumption) ?_; rotate_left; focus (intro w hSw; (try dsimp only at hSw); (try simp only [zk1, zk2]); go_simp; try with_reducible rfl)); (try simp only [zk1, zk2]); (try simp only [Act.put, zk4, zk5, zk6])
      (refine wpAnyH_take (i := 1) (v := ?_) rfl (by kernel_rfl) (by kernel_rfl) (by kernel_rfl) (fun _ _ _ h => h) (Or.inl ⟨by rfl, ?_⟩) (by assumption) ?_; rotate_left; focus (intro w hSw; (try dsimp only at hSw); (try simp only [zk1, zk2, zk3]); go_simp; try with_reducible rfl)); (try simp only [zk1, zk2, zk3]); (try simp only [Act.put, zk4, zk5, zk6])
      (refine wpAnyH_take (i := 2) (v := ?_) rfl (by kernel_rfl) (by kernel_rfl) (by kernel_rfl) (fun _ _ _ h => h) (Or.inl ⟨by rfl, ?_⟩) (by assumption) ?_; rotate_left; focus (intro w hSw; (try dsimp only at hSw); (try simp only [zk1, zk2, zk3]); go_simp; try with_reducible rfl)); (try simp only [zk1, zk2, zk3]); (try simp only [Act.put, zk4, zk5, zk6])
      (refine wpAnyH_take (i := 3) (v := ?_) rfl (by kernel_rfl) (by kernel_rfl) (by kernel_rfl) (fun _ _ _ h => h) (Or.inl ⟨by rfl, ?_⟩) (by assumption) ?_; rotate_left; focus (intro w hSw; (try dsimp only at hSw); (try simp only [zk1, zk2, zk3]); go_simp; try with_reducible rfl)); (try simp only [zk1, zk2, zk3]); (try simp only [Act.put, zk4, zk5, zk6])
      (refine wpAnyH_take (i := 4) (v := ?_) rfl (by kernel_rfl) (by kernel_rfl) (by kernel_rfl) (fun _ _ _ h => h) (Or.inl ⟨by rfl, ?_⟩) (by assumption) ?_; rotate_left; focus (intro w hSw; (try dsimp only at hSw); (try simp only [zk1, zk2, zk3]); go_simp; try with_reducible rfl)); (try simp only [zk1, zk2, zk3]); (try simp only [Act.put, zk4, zk5, zk6])
      have z0 := R.2.1 0 _ rfl
      have z1 := R.2.1 1 _ rfl
      have z2 := R.2.1 2 _ rfl
      have z3 := R.2.1 3 _ rfl
      have f0 := R.2.2 0
      have f1 := R.2.2 1
      have f2 := R.2.2 2
      have f3 := R.2.2 3
      have R9 := ((((R.set 0 (.int .i64 hh) (by simp)).set 1 (.int .i64 ep) (by simp)).set 2 (.string r) (by simp)).set 3 (.string p) (by simp))
      have H9 := ((((H.far (c := w.heap.size) (by omega) 0 (.int .i64 hh)).far (c := w.heap.size) (by omega) 1 (.int .i64 ep)).far (c := w.heap.size) (by omega) 2 (.string r)).far (c := w.heap.size) (by omega) 3 (.string p))
      have X9 : Ext w ((((w7.setCell ⟨w.heap.size, 0, none⟩ (.int .i64 hh)).setCell ⟨w.heap.size, 1, none⟩ (.int .i64 ep)).setCell ⟨w.heap.size, 2, none⟩ (.string r)).setCell ⟨w.heap.size, 3, none⟩ (.string p)) := ((((X.setCell (by dsimp only; omega) (.int .i64 hh)).setCell (by dsimp only; omega) (.int .i64 ep)).setCell (by dsimp only; omega) (.string r)).setCell (by dsimp only; omega) (.string p))
      have hgw : w.heap.size < g := by omega
      have T9 : Strs ((((w7.setCell ⟨w.heap.size, 0, none⟩ (.int .i64 hh)).setCell ⟨w.heap.size, 1, none⟩ (.int .i64 ep)).setCell ⟨w.heap.size, 2, none⟩ (.string r)).setCell ⟨w.heap.size, 3, none⟩ (.string p)) (.slice (some ⟨g, 0, none⟩) 16 pc) pool := (strs_under (strs_under (strs_under (strs_under ST.out (over_at (b := w.heap.size + 1) hgw) (Nat.lt_succ_self w.heap.size) 0 (.int .i64 hh)) (over_at (b := w.heap.size + 1) hgw) (Nat.lt_succ_self w.heap.size) 1 (.int .i64 ep)) (over_at (b := w.heap.size + 1) hgw) (Nat.lt_succ_self w.heap.size) 2 (.string r)) (over_at (b := w.heap.size + 1) hgw) (Nat.lt_succ_self w.heap.size) 3 (.string p))
      (refine wpAnyH_ready (rs := [5]) (by kernel_rfl) (by simp) ?_; refine AllReadyH.cons rfl (fun K hK => ?_) AllReadyH.nil; (try simp only [zk1, zk2, zk3]))
      go_simp
      clear z0 f0 q0 z1 f1 q1 z2 f2 q2 z3 f3 q3 R H X
      have R := R9
      have H := H9
      have X := X9
      clear R9 H9 X9
      generalize (((w7.setCell ⟨w.heap.size, 0, none⟩ (.int .i64 hh)).setCell ⟨w.heap.size, 1, none⟩ (.int .i64 ep)).setCell ⟨w.heap.size, 2, none⟩ (.string r)).setCell ⟨w.heap.size, 3, none⟩ (.string p) = w8 at *
      (try dsimp only)
      refine hK.out _ _ (by exact ⟨H.2.1 0 _ rfl, H.2.1 1 _ rfl, H.2.1 2 _ rfl, H.2.1 3 _ rfl⟩) (fun hHeld => ?_)
      clear hK K
      refine wpAnyH_done (by kernel_rfl) ?_ _
      have k0 := R.2.1 0 _ rfl
      have k1 := R.2.1 1 _ rfl
      have k2 := R.2.1 2 _ rfl
      have k3 := R.2.1 3 _ rfl
      go_wp2
      refine bodyPost_ret (v := .tuple #[.string seed, .slice (some ⟨g, 1, none⟩) 15 (pc - 1), .agg #[.int .i64 hh, .int .i64 ep, .string r, .string p]]) (by simp [results, Tryz.results5, go_sem, k0, k1, k2, k3]) rfl ?_
      exact ⟨seed, pool.drop 1, some ⟨g, 1, none⟩, pc - 1, hh, ep, r, p, by rw [List.length_drop, HPL.out], fun s hs => HPF.out s (List.mem_of_mem_drop hs), strs_tl T9 (by rw [HPL.out]; omega), solid_some _ _ _ _, X⟩
  · have hin2 := inB_true.1 hin
    have HIN := Lib.hid hin
    clear hin
    go_wp2_with fail
    generalize w3.alloc (Obj.cells #[.int .i64 hh, .int .i64 ep, .string r, .string p] 26) = w4 at *
    generalize w3.heap.size = hb at *
    clear e3 h0 C
    refine (spec_l01In _ _ _ _).mono ?_
    rw [HIN.out]
    rintro e w' ⟨rfl, rfl⟩
    go_wp2_with fail
    refine (spec_l14Seed hh _ (by omega)).mono ?_
    rintro e w5 ⟨seed, rfl, hsd, x5⟩
    replace R := R.ext x5
    replace X := X.trans x5
    replace H := H.ext x5
    have HPF := Lib.hid (fun (s : ByteArray) (hs : s ∈ poolK seed 16) => show s.size ≤ maxLen by have := poolK_fit seed 16 s hs; unfold maxLen; omega)
    have hr5 := R.1
    go_wp2_with fail
    refine (spec_PoolOf seed _).mono ?_
    rintro e w6 ⟨pa, pc, rfl, own, x6⟩
    replace R := R.ext x6
    replace X := X.trans x6
    replace H := H.ext x6
    obtain ⟨g, c', he⟩ := own_form own (by rw [poolK_len]; omega)
    injection he with e1 e2 e3
    subst e1 e3
    clear e2
    have ST := Lib.hid own.strs
    have hlo := own_lt own g rfl
    clear own
    have HPL := Lib.hid (poolK_len seed 16)
    generalize poolK seed 16 = pool at *
    have hpc : 16 ≤ pc := by have := ST.out; obtain ⟨-, a9, c9, hv, hc9, -⟩ := this; injection hv with e1 e2 e3; have := HPL.out; omega
    have hpi : (16 : Int) ≤ pc := by omega
    by_cases h2 : 2 ≤ k
    · have hk0 : ¬ k = 0 := by omega
      have hk1 : ¬ k = 1 := by omega
      have hkb0 : (k == 0) = false := beq_eq_false_iff_ne.2 hk0
      have hkb1 : (k == 1) = false := beq_eq_false_iff_ne.2 hk1
      go_upto_region 13 with (fail)
      refine wp_region_held_drew (S := (fun W => W.cell? ⟨hb, 0, none⟩ = some (.int .i64 hh) ∧ W.cell? ⟨hb, 1, none⟩ = some (.int .i64 ep) ∧ W.cell? ⟨hb, 2, none⟩ = some (.string r) ∧ W.cell? ⟨hb, 3, none⟩ = some (.string p))) (by kernel_rfl) (by exact ⟨H.2.1 0 _ rfl, H.2.1 1 _ rfl, H.2.1 2 _ rfl, H.2.1 3 _ rfl⟩) (fun hHeld => ?_)
      have xd : Ext w6 w6.drew := (Ext.refl w6).drew
      replace R := R.ext xd
      replace X := X.trans xd
      replace H := H.ext xd
      replace ST := Lib.hid (ST.out.ext xd)
      generalize w6.drew = w7 at *
      clear xd
      have q0 := H.2.1 0 _ rfl
      have q1 := H.2.1 1 _ rfl
      have q2 := H.2.1 2 _ rfl
      have q3 := H.2.1 3 _ rfl
      (refine wpAnyH_take (i := 0) (v := ?_) rfl (by kernel_rfl) (by kernel_rfl) (by kernel_rfl) (fun _ _ _ h => h) (Or.inl ⟨by rfl, ?_⟩) (by assumption) ?_; rotate_left; focus (intro w hSw; (try dsimp only at hSw); (try simp only [zk1, zk2]); go_simp; try with_reducible rfl)); (try simp only [zk1, zk2]); (try simp only [Act.put, zk4, zk5, zk6])
      (refine wpAnyH_take (i := 1) (v := ?_) rfl (by kernel_rfl) (by kernel_rfl) (by kernel_rfl) (fun _ _ _ h => h) (Or.inl ⟨by rfl, ?_⟩) (by assumption) ?_; rotate_left; focus (intro w hSw; (try dsimp only at hSw); (try simp only [zk1, zk2, zk3]); go_simp; try with_reducible rfl)); (try simp only [zk1, zk2, zk3]); (try simp only [Act.put, zk4, zk5, zk6])
      (refine wpAnyH_take (i := 2) (v := ?_) rfl (by kernel_rfl) (by kernel_rfl) (by kernel_rfl) (fun _ _ _ h => h) (Or.inl ⟨by rfl, ?_⟩) (by assumption) ?_; rotate_left; focus (intro w hSw; (try dsimp only at hSw); (try simp only [zk1, zk2, zk3]); go_simp; try with_reducible rfl)); (try simp only [zk1, zk2, zk3]); (try simp only [Act.put, zk4, zk5, zk6])
      (refine wpAnyH_take (i := 3) (v := ?_) rfl (by kernel_rfl) (by kernel_rfl) (by kernel_rfl) (fun _ _ _ h => h) (Or.inl ⟨by rfl, ?_⟩) (by assumption) ?_; rotate_left; focus (intro w hSw; (try dsimp only at hSw); (try simp only [zk1, zk2, zk3]); go_simp; try with_reducible rfl)); (try simp only [zk1, zk2, zk3]); (try simp only [Act.put, zk4, zk5, zk6])
      (refine wpAnyH_take (i := 4) (v := ?_) rfl (by kernel_rfl) (by kernel_rfl) (by kernel_rfl) (fun _ _ _ h => h) (Or.inl ⟨by rfl, ?_⟩) (by assumption) ?_; rotate_left; focus (intro w hSw; (try dsimp only at hSw); (try simp only [zk1, zk2, zk3]); go_simp; try with_reducible rfl)); (try simp only [zk1, zk2, zk3]); (try simp only [Act.put, zk4, zk5, zk6])
      have z0 := R.2.1 0 _ rfl
      have z1 := R.2.1 1 _ rfl
      have z2 := R.2.1 2 _ rfl
      have z3 := R.2.1 3 _ rfl
      have f0 := R.2.2 0
      have f1 := R.2.2 1
      have f2 := R.2.2 2
      have f3 := R.2.2 3
      have R9 := ((((R.set 0 (.int .i64 hh) (by simp)).set 1 (.int .i64 ep) (by simp)).set 2 (.string r) (by simp)).set 3 (.string p) (by simp))
      have H9 := ((((H.far (c := w.heap.size) (by omega) 0 (.int .i64 hh)).far (c := w.heap.size) (by omega) 1 (.int .i64 ep)).far (c := w.heap.size) (by omega) 2 (.string r)).far (c := w.heap.size) (by omega) 3 (.string p))
      have X9 : Ext w ((((w7.setCell ⟨w.heap.size, 0, none⟩ (.int .i64 hh)).setCell ⟨w.heap.size, 1, none⟩ (.int .i64 ep)).setCell ⟨w.heap.size, 2, none⟩ (.string r)).setCell ⟨w.heap.size, 3, none⟩ (.string p)) := ((((X.setCell (by dsimp only; omega) (.int .i64 hh)).setCell (by dsimp only; omega) (.int .i64 ep)).setCell (by dsimp only; omega) (.string r)).setCell (by dsimp only; omega) (.string p))
      have hgw : w.heap.size < g := by omega
      have T9 : Strs ((((w7.setCell ⟨w.heap.size, 0, none⟩ (.int .i64 hh)).setCell ⟨w.heap.size, 1, none⟩ (.int .i64 ep)).setCell ⟨w.heap.size, 2, none⟩ (.string r)).setCell ⟨w.heap.size, 3, none⟩ (.string p)) (.slice (some ⟨g, 0, none⟩) 16 pc) pool := (strs_under (strs_under (strs_under (strs_under ST.out (over_at (b := w.heap.size + 1) hgw) (Nat.lt_succ_self w.heap.size) 0 (.int .i64 hh)) (over_at (b := w.heap.size + 1) hgw) (Nat.lt_succ_self w.heap.size) 1 (.int .i64 ep)) (over_at (b := w.heap.size + 1) hgw) (Nat.lt_succ_self w.heap.size) 2 (.string r)) (over_at (b := w.heap.size + 1) hgw) (Nat.lt_succ_self w.heap.size) 3 (.string p))
      (refine wpAnyH_ready (rs := [5]) (by kernel_rfl) (by simp) ?_; refine AllReadyH.cons rfl (fun K hK => ?_) AllReadyH.nil; (try simp only [zk1, zk2, zk3]))
      go_simp
      clear z0 f0 q0 z1 f1 q1 z2 f2 q2 z3 f3 q3 R H X
      have R := R9
      have H := H9
      have X := X9
      clear R9 H9 X9
      generalize (((w7.setCell ⟨w.heap.size, 0, none⟩ (.int .i64 hh)).setCell ⟨w.heap.size, 1, none⟩ (.int .i64 ep)).setCell ⟨w.heap.size, 2, none⟩ (.string r)).setCell ⟨w.heap.size, 3, none⟩ (.string p) = w8 at *
      (try dsimp only)
      refine hK.out _ _ (by exact ⟨H.2.1 0 _ rfl, H.2.1 1 _ rfl, H.2.1 2 _ rfl, H.2.1 3 _ rfl⟩) (fun hHeld => ?_)
      clear hK K
      refine wpAnyH_done (by kernel_rfl) ?_ _
      have k0 := R.2.1 0 _ rfl
      have k1 := R.2.1 1 _ rfl
      have k2 := R.2.1 2 _ rfl
      have k3 := R.2.1 3 _ rfl
      go_wp2
      refine bodyPost_ret (v := .tuple #[.string seed, .slice (some ⟨g, 0, none⟩) 16 pc, .agg #[.int .i64 hh, .int .i64 ep, .string r, .string p]]) (by simp [results, Tryz.results5, go_sem, k0, k1, k2, k3]) rfl ?_
      exact ⟨seed, pool, some ⟨g, 0, none⟩, pc, hh, ep, r, p, by rw [HPL.out], HPF.out, by rw [HPL.out]; exact T9, solid_some _ _ _ _, X⟩
    by_cases h0 : k = 0
    · subst h0
      go_upto_region 13 with (fail)
      refine wp_region_held_drew (S := (fun W => W.cell? ⟨hb, 0, none⟩ = some (.int .i64 hh) ∧ W.cell? ⟨hb, 1, none⟩ = some (.int .i64 ep) ∧ W.cell? ⟨hb, 2, none⟩ = some (.string r) ∧ W.cell? ⟨hb, 3, none⟩ = some (.string p))) (by kernel_rfl) (by exact ⟨H.2.1 0 _ rfl, H.2.1 1 _ rfl, H.2.1 2 _ rfl, H.2.1 3 _ rfl⟩) (fun hHeld => ?_)
      have xd : Ext w6 w6.drew := (Ext.refl w6).drew
      replace R := R.ext xd
      replace X := X.trans xd
      replace H := H.ext xd
      replace ST := Lib.hid (ST.out.ext xd)
      generalize w6.drew = w7 at *
      clear xd
      have q0 := H.2.1 0 _ rfl
      have q1 := H.2.1 1 _ rfl
      have q2 := H.2.1 2 _ rfl
      have q3 := H.2.1 3 _ rfl
      (refine wpAnyH_take (i := 0) (v := ?_) rfl (by kernel_rfl) (by kernel_rfl) (by kernel_rfl) (fun _ _ _ h => h) (Or.inl ⟨by rfl, ?_⟩) (by assumption) ?_; rotate_left; focus (intro w hSw; (try dsimp only at hSw); (try simp only [zk1, zk2]); go_simp; try with_reducible rfl)); (try simp only [zk1, zk2]); (try simp only [Act.put, zk4, zk5, zk6])
      (refine wpAnyH_take (i := 1) (v := ?_) rfl (by kernel_rfl) (by kernel_rfl) (by kernel_rfl) (fun _ _ _ h => h) (Or.inl ⟨by rfl, ?_⟩) (by assumption) ?_; rotate_left; focus (intro w hSw; (try dsimp only at hSw); (try simp only [zk1, zk2, zk3]); go_simp; try with_reducible rfl)); (try simp only [zk1, zk2, zk3]); (try simp only [Act.put, zk4, zk5, zk6])
      (refine wpAnyH_take (i := 2) (v := ?_) rfl (by kernel_rfl) (by kernel_rfl) (by kernel_rfl) (fun _ _ _ h => h) (Or.inl ⟨by rfl, ?_⟩) (by assumption) ?_; rotate_left; focus (intro w hSw; (try dsimp only at hSw); (try simp only [zk1, zk2, zk3]); go_simp; try with_reducible rfl)); (try simp only [zk1, zk2, zk3]); (try simp only [Act.put, zk4, zk5, zk6])
      (refine wpAnyH_take (i := 3) (v := ?_) rfl (by kernel_rfl) (by kernel_rfl) (by kernel_rfl) (fun _ _ _ h => h) (Or.inl ⟨by rfl, ?_⟩) (by assumption) ?_; rotate_left; focus (intro w hSw; (try dsimp only at hSw); (try simp only [zk1, zk2, zk3]); go_simp; try with_reducible rfl)); (try simp only [zk1, zk2, zk3]); (try simp only [Act.put, zk4, zk5, zk6])
      (refine wpAnyH_take (i := 4) (v := ?_) rfl (by kernel_rfl) (by kernel_rfl) (by kernel_rfl) (fun _ _ _ h => h) (Or.inl ⟨by rfl, ?_⟩) (by assumption) ?_; rotate_left; focus (intro w hSw; (try dsimp only at hSw); (try simp only [zk1, zk2, zk3]); go_simp; try with_reducible rfl)); (try simp only [zk1, zk2, zk3]); (try simp only [Act.put, zk4, zk5, zk6])
      have z0 := R.2.1 0 _ rfl
      have z1 := R.2.1 1 _ rfl
      have z2 := R.2.1 2 _ rfl
      have z3 := R.2.1 3 _ rfl
      have f0 := R.2.2 0
      have f1 := R.2.2 1
      have f2 := R.2.2 2
      have f3 := R.2.2 3
      have R9 := ((((R.set 0 (.int .i64 hh) (by simp)).set 1 (.int .i64 ep) (by simp)).set 2 (.string r) (by simp)).set 3 (.string p) (by simp))
      have H9 := ((((H.far (c := w.heap.size) (by omega) 0 (.int .i64 hh)).far (c := w.heap.size) (by omega) 1 (.int .i64 ep)).far (c := w.heap.size) (by omega) 2 (.string r)).far (c := w.heap.size) (by omega) 3 (.string p))
      have X9 : Ext w ((((w7.setCell ⟨w.heap.size, 0, none⟩ (.int .i64 hh)).setCell ⟨w.heap.size, 1, none⟩ (.int .i64 ep)).setCell ⟨w.heap.size, 2, none⟩ (.string r)).setCell ⟨w.heap.size, 3, none⟩ (.string p)) := ((((X.setCell (by dsimp only; omega) (.int .i64 hh)).setCell (by dsimp only; omega) (.int .i64 ep)).setCell (by dsimp only; omega) (.string r)).setCell (by dsimp only; omega) (.string p))
      have hgw : w.heap.size < g := by omega
      have T9 : Strs ((((w7.setCell ⟨w.heap.size, 0, none⟩ (.int .i64 hh)).setCell ⟨w.heap.size, 1, none⟩ (.int .i64 ep)).setCell ⟨w.heap.size, 2, none⟩ (.string r)).setCell ⟨w.heap.size, 3, none⟩ (.string p)) (.slice (some ⟨g, 0, none⟩) 16 pc) pool := (strs_under (strs_under (strs_under (strs_under ST.out (over_at (b := w.heap.size + 1) hgw) (Nat.lt_succ_self w.heap.size) 0 (.int .i64 hh)) (over_at (b := w.heap.size + 1) hgw) (Nat.lt_succ_self w.heap.size) 1 (.int .i64 ep)) (over_at (b := w.heap.size + 1) hgw) (Nat.lt_succ_self w.heap.size) 2 (.string r)) (over_at (b := w.heap.size + 1) hgw) (Nat.lt_succ_self w.heap.size) 3 (.string p))
      (refine wpAnyH_ready (rs := [5]) (by kernel_rfl) (by simp) ?_; refine AllReadyH.cons rfl (fun K hK => ?_) AllReadyH.nil; (try simp only [zk1, zk2, zk3]))
      go_simp
      clear z0 f0 q0 z1 f1 q1 z2 f2 q2 z3 f3 q3 R H X
      have R := R9
      have H := H9
      have X := X9
      clear R9 H9 X9
      generalize (((w7.setCell ⟨w.heap.size, 0, none⟩ (.int .i64 hh)).setCell ⟨w.heap.size, 1, none⟩ (.int .i64 ep)).setCell ⟨w.heap.size, 2, none⟩ (.string r)).setCell ⟨w.heap.size, 3, none⟩ (.string p) = w8 at *
      (try dsimp only)
      refine hK.out _ _ (by exact ⟨H.2.1 0 _ rfl, H.2.1 1 _ rfl, H.2.1 2 _ rfl, H.2.1 3 _ rfl⟩) (fun hHeld => ?_)
      clear hK K
      refine wpAnyH_done (by kernel_rfl) ?_ _
      have k0 := R.2.1 0 _ rfl
      have k1 := R.2.1 1 _ rfl
      have k2 := R.2.1 2 _ rfl
      have k3 := R.2.1 3 _ rfl
      go_wp2
      refine bodyPost_ret (v := .tuple #[.string ⟨#[111, 116, 104, 101, 114]⟩, .slice (some ⟨g, 0, none⟩) 16 pc, .agg #[.int .i64 hh, .int .i64 ep, .string r, .string p]]) (by simp [results, Tryz.results5, go_sem, k0, k1, k2, k3]) rfl ?_
      exact ⟨⟨#[111, 116, 104, 101, 114]⟩, pool, some ⟨g, 0, none⟩, pc, hh, ep, r, p, by rw [HPL.out], HPF.out, by rw [HPL.out]; exact T9, solid_some _ _ _ _, X⟩
    · obtain rfl : k = 1 := by omega
      have hd1 : ¬ pc = 1 := by omega
      go_upto_region 13 with (fail)
      refine wp_region_held_drew (S := (fun W => W.cell? ⟨hb, 0, none⟩ = some (.int .i64 hh) ∧ W.cell? ⟨hb, 1, none⟩ = some (.int .i64 ep) ∧ W.cell? ⟨hb, 2, none⟩ = some (.string r) ∧ W.cell? ⟨hb, 3, none⟩ = some (.string p))) (by kernel_rfl) (by exact ⟨H.2.1 0 _ rfl, H.2.1 1 _ rfl, H.2.1 2 _ rfl, H.2.1 3 _ rfl⟩) (fun hHeld => ?_)
      have xd : Ext w6 w6.drew := (Ext.refl w6).drew
      replace R := R.ext xd
      replace X := X.trans xd
      replace H := H.ext xd
      replace ST := Lib.hid (ST.out.ext xd)
      generalize w6.drew = w7 at *
      clear xd
      have q0 := H.2.1 0 _ rfl
      have q1 := H.2.1 1 _ rfl
      have q2 := H.2.1 2 _ rfl
      have q3 := H.2.1 3 _ rfl
      (refine wpAnyH_take (i := 0) (v := ?_) rfl (by kernel_rfl) (by kernel_rfl) (by kernel_rfl) (fun _ _ _ h => h) (Or.inl ⟨by rfl, ?_⟩) (by assumption) ?_; rotate_left; focus (intro w hSw; (try dsimp only at hSw); (try simp only [zk1, zk2]); go_simp; try with_reducible rfl)); (try simp only [zk1, zk2]); (try simp only [Act.put, zk4, zk5, zk6])
      (refine wpAnyH_take (i := 1) (v := ?_) rfl (by kernel_rfl) (by kernel_rfl) (by kernel_rfl) (fun _ _ _ h => h) (Or.inl ⟨by rfl, ?_⟩) (by assumption) ?_; rotate_left; focus (intro w hSw; (try dsimp only at hSw); (try simp only [zk1, zk2, zk3]); go_simp; try with_reducible rfl)); (try simp only [zk1, zk2, zk3]); (try simp only [Act.put, zk4, zk5, zk6])
      (refine wpAnyH_take (i := 2) (v := ?_) rfl (by kernel_rfl) (by kernel_rfl) (by kernel_rfl) (fun _ _ _ h => h) (Or.inl ⟨by rfl, ?_⟩) (by assumption) ?_; rotate_left; focus (intro w hSw; (try dsimp only at hSw); (try simp only [zk1, zk2, zk3]); go_simp; try with_reducible rfl)); (try simp only [zk1, zk2, zk3]); (try simp only [Act.put, zk4, zk5, zk6])
      (refine wpAnyH_take (i := 3) (v := ?_) rfl (by kernel_rfl) (by kernel_rfl) (by kernel_rfl) (fun _ _ _ h => h) (Or.inl ⟨by rfl, ?_⟩) (by assumption) ?_; rotate_left; focus (intro w hSw; (try dsimp only at hSw); (try simp only [zk1, zk2, zk3]); go_simp; try with_reducible rfl)); (try simp only [zk1, zk2, zk3]); (try simp only [Act.put, zk4, zk5, zk6])
      (refine wpAnyH_take (i := 4) (v := ?_) rfl (by kernel_rfl) (by kernel_rfl) (by kernel_rfl) (fun _ _ _ h => h) (Or.inl ⟨by rfl, ?_⟩) (by assumption) ?_; rotate_left; focus (intro w hSw; (try dsimp only at hSw); (try simp only [zk1, zk2, zk3]); go_simp; try with_reducible rfl)); (try simp only [zk1, zk2, zk3]); (try simp only [Act.put, zk4, zk5, zk6])
      have z0 := R.2.1 0 _ rfl
      have z1 := R.2.1 1 _ rfl
      have z2 := R.2.1 2 _ rfl
      have z3 := R.2.1 3 _ rfl
      have f0 := R.2.2 0
      have f1 := R.2.2 1
      have f2 := R.2.2 2
      have f3 := R.2.2 3
      have R9 := ((((R.set 0 (.int .i64 hh) (by simp)).set 1 (.int .i64 ep) (by simp)).set 2 (.string r) (by simp)).set 3 (.string p) (by simp))
      have H9 := ((((H.far (c := w.heap.size) (by omega) 0 (.int .i64 hh)).far (c := w.heap.size) (by omega) 1 (.int .i64 ep)).far (c := w.heap.size) (by omega) 2 (.string r)).far (c := w.heap.size) (by omega) 3 (.string p))
      have X9 : Ext w ((((w7.setCell ⟨w.heap.size, 0, none⟩ (.int .i64 hh)).setCell ⟨w.heap.size, 1, none⟩ (.int .i64 ep)).setCell ⟨w.heap.size, 2, none⟩ (.string r)).setCell ⟨w.heap.size, 3, none⟩ (.string p)) := ((((X.setCell (by dsimp only; omega) (.int .i64 hh)).setCell (by dsimp only; omega) (.int .i64 ep)).setCell (by dsimp only; omega) (.string r)).setCell (by dsimp only; omega) (.string p))
      have hgw : w.heap.size < g := by omega
      have T9 : Strs ((((w7.setCell ⟨w.heap.size, 0, none⟩ (.int .i64 hh)).setCell ⟨w.heap.size, 1, none⟩ (.int .i64 ep)).setCell ⟨w.heap.size, 2, none⟩ (.string r)).setCell ⟨w.heap.size, 3, none⟩ (.string p)) (.slice (some ⟨g, 0, none⟩) 16 pc) pool := (strs_under (strs_under (strs_under (strs_under ST.out (over_at (b := w.heap.size + 1) hgw) (Nat.lt_succ_self w.heap.size) 0 (.int .i64 hh)) (over_at (b := w.heap.size + 1) hgw) (Nat.lt_succ_self w.heap.size) 1 (.int .i64 ep)) (over_at (b := w.heap.size + 1) hgw) (Nat.lt_succ_self w.heap.size) 2 (.string r)) (over_at (b := w.heap.size + 1) hgw) (Nat.lt_succ_self w.heap.size) 3 (.string p))
      (refine wpAnyH_ready (rs := [5]) (by kernel_rfl) (by simp) ?_; refine AllReadyH.cons rfl (fun K hK => ?_) AllReadyH.nil; (try simp only [zk1, zk2, zk3]))
      go_simp
      clear z0 f0 q0 z1 f1 q1 z2 f2 q2 z3 f3 q3 R H X
      have R := R9
      have H := H9
      have X := X9
      clear R9 H9 X9
      generalize (((w7.setCell ⟨w.heap.size, 0, none⟩ (.int .i64 hh)).setCell ⟨w.heap.size, 1, none⟩ (.int .i64 ep)).setCell ⟨w.heap.size, 2, none⟩ (.string r)).setCell ⟨w.heap.size, 3, none⟩ (.string p) = w8 at *
      (try dsimp only)
      refine hK.out _ _ (by exact ⟨H.2.1 0 _ rfl, H.2.1 1 _ rfl, H.2.1 2 _ rfl, H.2.1 3 _ rfl⟩) (fun hHeld => ?_)
      clear hK K
      refine wpAnyH_done (by kernel_rfl) ?_ _
      have k0 := R.2.1 0 _ rfl
      have k1 := R.2.1 1 _ rfl
      have k2 := R.2.1 2 _ rfl
      have k3 := R.2.1 3 _ rfl
      go_wp2
      refine bodyPost_ret (v := .tuple #[.string seed, .slice (some ⟨g, 1, none⟩) 15 (pc - 1), .agg #[.int .i64 hh, .int .i64 ep, .string r, .string p]]) (by simp [results, Tryz.results5, go_sem, k0, k1, k2, k3]) rfl ?_
      exact ⟨seed, pool.drop 1, some ⟨g, 1, none⟩, pc - 1, hh, ep, r, p, by rw [List.length_drop, HPL.out], fun s hs => HPF.out s (List.mem_of_mem_drop hs), strs_tl T9 (by rw [HPL.out]; omega), solid_some _ _ _ _, X⟩
set_option maxRecDepth 100000 in
set_option maxHeartbeats 12800000 in
theorem spec_DrawSealOk (v : Value) (bs : List Int) (w : World) (h : Code w w.heap.size v bs) (hl : bs.length ≤ 1048576) :
    Calls Tryz.prog 10 #[v] w fun e w' => ∃ (root : ByteArray) (hh ep : Int) (r p : ByteArray) (S : SigV) (a1 a2 a3 : Option Addr) (c1 c2 c3 : Nat), e = .returned (.tuple #[.string root, .agg #[.int .i64 hh, .int .i64 ep, .string r, .string p, .int .i64 S.at_, .slice a1 S.op.length c1, .slice a2 S.sh.length c2, .slice a3 S.si.length c3]]) ∧ SigFit S ∧ SigRd w' w.heap.size (.slice a1 S.op.length c1) (.slice a2 S.sh.length c2) (.slice a3 S.si.length c3) S ∧ Ext w w' := by
  have e0 : Ext w (w.alloc (Obj.cells #[.int .i64 0, .int .i64 0, .string ⟨#[]⟩, .string ⟨#[]⟩, .int .i64 0, .slice none 0 0, .slice none 0 0, .slice none 0 0] 32)) := (Ext.refl w).alloc _
  have R : Bx (w.alloc (Obj.cells #[.int .i64 0, .int .i64 0, .string ⟨#[]⟩, .string ⟨#[]⟩, .int .i64 0, .slice none 0 0, .slice none 0 0, .slice none 0 0] 32)) w.heap.size [.int .i64 0, .int .i64 0, .string ⟨#[]⟩, .string ⟨#[]⟩, .int .i64 0, .slice none 0 0, .slice none 0 0, .slice none 0 0] := Bx.new w _ _
  go_enter Tryz.func10, Tryz.ntmps10
  go_wp2_with fail
  generalize w.alloc (Obj.cells #[.int .i64 0, .int .i64 0, .string ⟨#[]⟩, .string ⟨#[]⟩, .int .i64 0, .slice none 0 0, .slice none 0 0, .slice none 0 0] 32) = W0 at *
  refine (spec_l01New v bs _ (h.ext (Nat.le_refl _) e0 e0.size) hl).mono ?_
  rintro e w1 ⟨rfl, C, x1⟩
  have lb : w.heap.size < W0.heap.size := R.1
  replace R := R.ext x1
  have X := e0.trans x1
  clear x1 e0 h
  generalize W0.heap.size = b at *
  have hwb : w.heap.size ≤ b := by omega
  have nb1 : w.heap.size ≠ b := by omega
  go_wp2_with fail
  refine (spec_l14Any b _ C).mono ?_
  clear C
  have lw1 : w.heap.size < w1.heap.size := R.1
  rintro e w2 ⟨hh, ep, r, p, root, S, a1, a2, a3, c1, c2, c3, rfl, hfit, SR, C, M⟩
  replace R := R.mut M nb1
  replace X := X.mut M hwb
  clear M
  have HFT := Lib.hid hfit
  clear hfit C
  have hw2 : w.heap.size < w2.heap.size := R.1
  have e2 : Ext w2 (w2.alloc (Obj.cells #[.int .i64 hh, .int .i64 ep, .string r, .string p, .int .i64 S.at_, .slice a1 S.op.length c1, .slice a2 S.sh.length c2, .slice a3 S.si.length c3] 32)) := (Ext.refl _).alloc _
  have Q := Bx.new w2 #[.int .i64 hh, .int .i64 ep, .string r, .string p, .int .i64 S.at_, .slice a1 S.op.length c1, .slice a2 S.sh.length c2, .slice a3 S.si.length c3] 32
  replace R := R.ext e2
  replace X := X.trans e2
  replace SR := SR.ext e2
  go_upto_region 2 with (fail)
  generalize w2.alloc (Obj.cells #[.int .i64 hh, .int .i64 ep, .string r, .string p, .int .i64 S.at_, .slice a1 S.op.length c1, .slice a2 S.sh.length c2, .slice a3 S.si.length c3] 32) = w3 at *
  clear e2
  refine wp_region_held_drew (S := (fun W => W.cell? ⟨w2.heap.size, 0, none⟩ = some (.int .i64 hh) ∧ W.cell? ⟨w2.heap.size, 1, none⟩ = some (.int .i64 ep) ∧ W.cell? ⟨w2.heap.size, 2, none⟩ = some (.string r) ∧ W.cell? ⟨w2.heap.size, 3, none⟩ = some (.string p) ∧ W.cell? ⟨w2.heap.size, 4, none⟩ = some (.int .i64 S.at_) ∧ W.cell? ⟨w2.heap.size, 5, none⟩ = some (.slice a1 S.op.length c1) ∧ W.cell? ⟨w2.heap.size, 6, none⟩ = some (.slice a2 S.sh.length c2) ∧ W.cell? ⟨w2.heap.size, 7, none⟩ = some (.slice a3 S.si.length c3))) (by kernel_rfl) (by exact ⟨Q.2.1 0 _ rfl, Q.2.1 1 _ rfl, Q.2.1 2 _ rfl, Q.2.1 3 _ rfl, Q.2.1 4 _ rfl, Q.2.1 5 _ rfl, Q.2.1 6 _ rfl, Q.2.1 7 _ rfl⟩) (fun hHeld => ?_)
  have xd : Ext w3 w3.drew := (Ext.refl w3).drew
  replace R := R.ext xd
  replace X := X.trans xd
  replace SR := SR.ext xd
  replace Q := Q.ext xd
  generalize w3.drew = w4 at *
  clear xd
  have q0 := Q.2.1 0 _ rfl
  have q1 := Q.2.1 1 _ rfl
  have q2 := Q.2.1 2 _ rfl
  have q3 := Q.2.1 3 _ rfl
  have q4 := Q.2.1 4 _ rfl
  have q5 := Q.2.1 5 _ rfl
  have q6 := Q.2.1 6 _ rfl
  have q7 := Q.2.1 7 _ rfl
  (refine wpAnyH_take (i := 0) (v := ?_) rfl (by kernel_rfl) (by kernel_rfl) (by kernel_rfl) (fun _ _ _ h => h) (Or.inl ⟨by rfl, ?_⟩) (by assumption) ?_; rotate_left; focus (intro w hSw; (try dsimp only at hSw); (try simp only [zk1, zk2]); go_simp; try with_reducible rfl)); (try simp only [zk1, zk2]); (try simp only [Act.put, zk4, zk5, zk6])
  (refine wpAnyH_take (i := 1) (v := ?_) rfl (by kernel_rfl) (by kernel_rfl) (by kernel_rfl) (fun _ _ _ h => h) (Or.inl ⟨by rfl, ?_⟩) (by assumption) ?_; rotate_left; focus (intro w hSw; (try dsimp only at hSw); (try simp only [zk1, zk2, zk3]); go_simp; try with_reducible rfl)); (try simp only [zk1, zk2, zk3]); (try simp only [Act.put, zk4, zk5, zk6])
  (refine wpAnyH_take (i := 2) (v := ?_) rfl (by kernel_rfl) (by kernel_rfl) (by kernel_rfl) (fun _ _ _ h => h) (Or.inl ⟨by rfl, ?_⟩) (by assumption) ?_; rotate_left; focus (intro w hSw; (try dsimp only at hSw); (try simp only [zk1, zk2, zk3]); go_simp; try with_reducible rfl)); (try simp only [zk1, zk2, zk3]); (try simp only [Act.put, zk4, zk5, zk6])
  have z0 := R.2.1 0 _ rfl
  have z1 := R.2.1 1 _ rfl
  have z2 := R.2.1 2 _ rfl
  have z3 := R.2.1 3 _ rfl
  have z4 := R.2.1 4 _ rfl
  have z5 := R.2.1 5 _ rfl
  have z6 := R.2.1 6 _ rfl
  have z7 := R.2.1 7 _ rfl
  have f0 := R.2.2 0
  have f1 := R.2.2 1
  have f2 := R.2.2 2
  have f3 := R.2.2 3
  have f4 := R.2.2 4
  have f5 := R.2.2 5
  have f6 := R.2.2 6
  have f7 := R.2.2 7
  have R9 := ((((((((R.set 0 (.int .i64 hh) (by simp)).set 1 (.int .i64 ep) (by simp)).set 2 (.string r) (by simp)).set 3 (.string p) (by simp)).set 4 (.int .i64 S.at_) (by simp)).set 5 (.slice a1 S.op.length c1) (by simp)).set 6 (.slice a2 S.sh.length c2) (by simp)).set 7 (.slice a3 S.si.length c3) (by simp))
  have Q9 := ((((((((Q.far (c := w.heap.size) (by omega) 0 (.int .i64 hh)).far (c := w.heap.size) (by omega) 1 (.int .i64 ep)).far (c := w.heap.size) (by omega) 2 (.string r)).far (c := w.heap.size) (by omega) 3 (.string p)).far (c := w.heap.size) (by omega) 4 (.int .i64 S.at_)).far (c := w.heap.size) (by omega) 5 (.slice a1 S.op.length c1)).far (c := w.heap.size) (by omega) 6 (.slice a2 S.sh.length c2)).far (c := w.heap.size) (by omega) 7 (.slice a3 S.si.length c3))
  have X9 : Ext w ((((((((w4.setCell ⟨w.heap.size, 0, none⟩ (.int .i64 hh)).setCell ⟨w.heap.size, 1, none⟩ (.int .i64 ep)).setCell ⟨w.heap.size, 2, none⟩ (.string r)).setCell ⟨w.heap.size, 3, none⟩ (.string p)).setCell ⟨w.heap.size, 4, none⟩ (.int .i64 S.at_)).setCell ⟨w.heap.size, 5, none⟩ (.slice a1 S.op.length c1)).setCell ⟨w.heap.size, 6, none⟩ (.slice a2 S.sh.length c2)).setCell ⟨w.heap.size, 7, none⟩ (.slice a3 S.si.length c3)) := ((((((((X.setCell (by dsimp only; omega) (.int .i64 hh)).setCell (by dsimp only; omega) (.int .i64 ep)).setCell (by dsimp only; omega) (.string r)).setCell (by dsimp only; omega) (.string p)).setCell (by dsimp only; omega) (.int .i64 S.at_)).setCell (by dsimp only; omega) (.slice a1 S.op.length c1)).setCell (by dsimp only; omega) (.slice a2 S.sh.length c2)).setCell (by dsimp only; omega) (.slice a3 S.si.length c3))
  have S9 := ((((((((SR.set (c := w.heap.size) lw1 0 (.int .i64 hh)).set (c := w.heap.size) lw1 1 (.int .i64 ep)).set (c := w.heap.size) lw1 2 (.string r)).set (c := w.heap.size) lw1 3 (.string p)).set (c := w.heap.size) lw1 4 (.int .i64 S.at_)).set (c := w.heap.size) lw1 5 (.slice a1 S.op.length c1)).set (c := w.heap.size) lw1 6 (.slice a2 S.sh.length c2)).set (c := w.heap.size) lw1 7 (.slice a3 S.si.length c3))
  (refine wpAnyH_ready (rs := [3]) (by kernel_rfl) (by simp) ?_; refine AllReadyH.cons rfl (fun K hK => ?_) AllReadyH.nil; (try simp only [zk1, zk2, zk3]))
  go_simp
  clear z0 f0 q0 z1 f1 q1 z2 f2 q2 z3 f3 q3 z4 f4 q4 z5 f5 q5 z6 f6 q6 z7 f7 q7 R Q X SR
  have R := R9
  have Q := Q9
  have X := X9
  have SR := S9
  clear R9 Q9 X9 S9
  generalize (((((((w4.setCell ⟨w.heap.size, 0, none⟩ (.int .i64 hh)).setCell ⟨w.heap.size, 1, none⟩ (.int .i64 ep)).setCell ⟨w.heap.size, 2, none⟩ (.string r)).setCell ⟨w.heap.size, 3, none⟩ (.string p)).setCell ⟨w.heap.size, 4, none⟩ (.int .i64 S.at_)).setCell ⟨w.heap.size, 5, none⟩ (.slice a1 S.op.length c1)).setCell ⟨w.heap.size, 6, none⟩ (.slice a2 S.sh.length c2)).setCell ⟨w.heap.size, 7, none⟩ (.slice a3 S.si.length c3) = w5 at *
  (try dsimp only)
  refine hK.out _ _ (by exact ⟨Q.2.1 0 _ rfl, Q.2.1 1 _ rfl, Q.2.1 2 _ rfl, Q.2.1 3 _ rfl, Q.2.1 4 _ rfl, Q.2.1 5 _ rfl, Q.2.1 6 _ rfl, Q.2.1 7 _ rfl⟩) (fun hHeld => ?_)
  clear hK K
  refine wpAnyH_done (by kernel_rfl) ?_ _
  have k0 := R.2.1 0 _ rfl
  have k1 := R.2.1 1 _ rfl
  have k2 := R.2.1 2 _ rfl
  have k3 := R.2.1 3 _ rfl
  have k4 := R.2.1 4 _ rfl
  have k5 := R.2.1 5 _ rfl
  have k6 := R.2.1 6 _ rfl
  have k7 := R.2.1 7 _ rfl
  go_wp2
  refine bodyPost_ret (v := .tuple #[.string root, .agg #[.int .i64 hh, .int .i64 ep, .string r, .string p, .int .i64 S.at_, .slice a1 S.op.length c1, .slice a2 S.sh.length c2, .slice a3 S.si.length c3]]) (by simp [results, Tryz.results10, go_sem, k0, k1, k2, k3, k4, k5, k6, k7]) rfl ?_
  exact ⟨root, hh, ep, r, p, S, a1, a2, a3, c1, c2, c3, rfl, HFT.out, SR.mono (by omega), X⟩
theorem sealT_le (hh ep : Int) (r p : ByteArray) (S : SigV) : (sealT hh ep r p S).size ≤ 1000000 := by
  unfold sealT
  split
  · have h1 := headText_34 hh ep r p
    have h2 := sigTx_size S
    have h3 := varT_size (headText hh ep r p).size
    rw [ByteArray.size_append, ByteArray.size_append]
    omega
  · decide
set_option maxRecDepth 100000 in
set_option maxHeartbeats 3200000 in
theorem spec_DrawReadSeal (v : Value) (bs : List Int) (w : World) (h : Code w w.heap.size v bs) (hl : bs.length ≤ 1048576) :
    Calls Tryz.prog 11 #[v] w fun e w' => ∃ t : ByteArray, e = .returned (.string t) ∧ t.size ≤ 1048577 ∧ Ext w w' := by
  go_enter Tryz.func11, Tryz.ntmps11
  go_wp2_with fail
  refine (spec_l01New v bs _ h hl).mono ?_
  rintro e w1 ⟨rfl, C, X⟩
  clear h
  have hbw := C.lt
  generalize hb : w.heap.size = b at *
  have hwb : w.heap.size ≤ b := by omega
  go_wp2_with fail
  refine (spec_l01Below b 4 _ C (by decide)).mono ?_
  clear C
  rintro e w2 ⟨k, rfl, hk, C, M⟩
  replace X := X.mut M hwb
  clear M
  go_wp2_with fail
  refine (spec_l14Any b _ C).mono ?_
  clear C
  rintro e w3 ⟨hh, ep, r, p, root, S, a1, a2, a3, c1, c2, c3, rfl, hfit, SR, C, M⟩
  replace X := X.mut M hwb
  clear M
  have HFT := Lib.hid hfit
  clear hfit
  have e3 : Ext w3 (w3.alloc (Obj.cells #[.int .i64 hh, .int .i64 ep, .string r, .string p, .int .i64 S.at_, .slice a1 S.op.length c1, .slice a2 S.sh.length c2, .slice a3 S.si.length c3] 32)) := (Ext.refl _).alloc _
  have Q := Bx.new w3 #[.int .i64 hh, .int .i64 ep, .string r, .string p, .int .i64 S.at_, .slice a1 S.op.length c1, .slice a2 S.sh.length c2, .slice a3 S.si.length c3] 32
  replace C := C.ext e3
  replace X := X.trans e3
  replace SR := SR.ext e3
  have q0 := Q.2.1 0 _ rfl
  have q1 := Q.2.1 1 _ rfl
  have q2 := Q.2.1 2 _ rfl
  have q3 := Q.2.1 3 _ rfl
  have q4 := Q.2.1 4 _ rfl
  have q5 := Q.2.1 5 _ rfl
  have q6 := Q.2.1 6 _ rfl
  have q7 := Q.2.1 7 _ rfl
  go_wp2_with fail
  generalize w3.alloc (Obj.cells #[.int .i64 hh, .int .i64 ep, .string r, .string p, .int .i64 S.at_, .slice a1 S.op.length c1, .slice a2 S.sh.length c2, .slice a3 S.si.length c3] 32) = w4 at *
  clear e3
  refine (spec_SealText hh ep r p _ _ _ S _ SR.1.1 SR.2.1.1 SR.2.2.1 HFT.out).mono ?_
  have hts := sealT_le hh ep r p S
  generalize sealT hh ep r p S = t at *
  generalize sealOk hh ep r p S = ok at *
  rintro e w5 ⟨rfl, x5⟩
  clear q0 q1 q2 q3 q4 q5 q6 q7
  replace C := C.ext x5
  replace X := X.trans x5
  replace SR := SR.ext x5
  replace Q := Q.ext x5
  by_cases hk0 : k = 0
  · subst hk0
    go_wp2_with fail
    refine (spec_l02Spoilt b t _ C (by omega)).mono ?_
    clear C
    rintro e w6 ⟨u, rfl, hu, C, M⟩
    replace X := X.mut M hwb
    clear M
    go_wp2
    go_ret
    exact ⟨u, rfl, by omega, X⟩
  · have hkb : (k == 0) = false := beq_eq_false_iff_ne.2 hk0
    go_wp2
    go_ret
    exact ⟨t, rfl, by omega, X⟩
set_option maxRecDepth 100000 in
set_option maxHeartbeats 3200000 in
theorem laws_sameSeal (hh ep : Int) (r p : ByteArray) (v1 v2 v3 u1 u2 u3 : Value) (S : SigV) (w : World) (h1 : Strs w v1 S.op) (h2 : Strs w v2 S.sh) (h3 : Strs w v3 S.si) (g1 : Strs w u1 S.op) (g2 : Strs w u2 S.sh) (g3 : Strs w u3 S.si) :
    Calls Tryz.prog 14 #[.agg #[.int .i64 hh, .int .i64 ep, .string r, .string p, .int .i64 S.at_, v1, v2, v3], .agg #[.int .i64 hh, .int .i64 ep, .string r, .string p, .int .i64 S.at_, u1, u2, u3]] w fun e w' => e = .returned (.bool true) ∧ Ext w w' := by
  obtain ⟨a1, c1, rfl⟩ := h1.form
  obtain ⟨a2, c2, rfl⟩ := h2.form
  obtain ⟨a3, c3, rfl⟩ := h3.form
  obtain ⟨b1, d1, rfl⟩ := g1.form
  obtain ⟨b2, d2, rfl⟩ := g2.form
  obtain ⟨b3, d3, rfl⟩ := g3.form
  have e0 : Ext w ((w.alloc (Obj.cells #[.int .i64 hh, .int .i64 ep, .string r, .string p, .int .i64 S.at_, .slice a1 S.op.length c1, .slice a2 S.sh.length c2, .slice a3 S.si.length c3] 32)).alloc (Obj.cells #[.int .i64 hh, .int .i64 ep, .string r, .string p, .int .i64 S.at_, .slice b1 S.op.length d1, .slice b2 S.sh.length d2, .slice b3 S.si.length d3] 32)) := ((Ext.refl w).alloc _).alloc _
  have P : Bx ((w.alloc (Obj.cells #[.int .i64 hh, .int .i64 ep, .string r, .string p, .int .i64 S.at_, .slice a1 S.op.length c1, .slice a2 S.sh.length c2, .slice a3 S.si.length c3] 32)).alloc (Obj.cells #[.int .i64 hh, .int .i64 ep, .string r, .string p, .int .i64 S.at_, .slice b1 S.op.length d1, .slice b2 S.sh.length d2, .slice b3 S.si.length d3] 32)) w.heap.size [.int .i64 hh, .int .i64 ep, .string r, .string p, .int .i64 S.at_, .slice a1 S.op.length c1, .slice a2 S.sh.length c2, .slice a3 S.si.length c3] := (Bx.new w _ _).ext ((Ext.refl _).alloc _)
  have Q : Bx ((w.alloc (Obj.cells #[.int .i64 hh, .int .i64 ep, .string r, .string p, .int .i64 S.at_, .slice a1 S.op.length c1, .slice a2 S.sh.length c2, .slice a3 S.si.length c3] 32)).alloc (Obj.cells #[.int .i64 hh, .int .i64 ep, .string r, .string p, .int .i64 S.at_, .slice b1 S.op.length d1, .slice b2 S.sh.length d2, .slice b3 S.si.length d3] 32)) (w.heap.size + 1) [.int .i64 hh, .int .i64 ep, .string r, .string p, .int .i64 S.at_, .slice b1 S.op.length d1, .slice b2 S.sh.length d2, .slice b3 S.si.length d3] := by have e := Bx.new (w.alloc (Obj.cells #[.int .i64 hh, .int .i64 ep, .string r, .string p, .int .i64 S.at_, .slice a1 S.op.length c1, .slice a2 S.sh.length c2, .slice a3 S.si.length c3] 32)) #[.int .i64 hh, .int .i64 ep, .string r, .string p, .int .i64 S.at_, .slice b1 S.op.length d1, .slice b2 S.sh.length d2, .slice b3 S.si.length d3] 32; rw [World.size_alloc] at e; exact e
  have hq1 : (r.toList == r.toList) = true := by simp
  have hq2 : (p.toList == p.toList) = true := by simp
  have p0 := P.2.1 0 _ rfl
  have p1 := P.2.1 1 _ rfl
  have p2 := P.2.1 2 _ rfl
  have p3 := P.2.1 3 _ rfl
  have p4 := P.2.1 4 _ rfl
  have p5 := P.2.1 5 _ rfl
  have p6 := P.2.1 6 _ rfl
  have p7 := P.2.1 7 _ rfl
  have q0 := Q.2.1 0 _ rfl
  have q1 := Q.2.1 1 _ rfl
  have q2 := Q.2.1 2 _ rfl
  have q3 := Q.2.1 3 _ rfl
  have q4 := Q.2.1 4 _ rfl
  have q5 := Q.2.1 5 _ rfl
  have q6 := Q.2.1 6 _ rfl
  have q7 := Q.2.1 7 _ rfl
  go_enter Tryz.func14, Tryz.ntmps14
  go_wp2_with fail
  generalize (w.alloc (Obj.cells #[.int .i64 hh, .int .i64 ep, .string r, .string p, .int .i64 S.at_, .slice a1 S.op.length c1, .slice a2 S.sh.length c2, .slice a3 S.si.length c3] 32)).alloc (Obj.cells #[.int .i64 hh, .int .i64 ep, .string r, .string p, .int .i64 S.at_, .slice b1 S.op.length d1, .slice b2 S.sh.length d2, .slice b3 S.si.length d3] 32) = w0 at *
  refine (laws_sameSigT _ _ _ _ _ _ S _ (h1.ext e0) (h2.ext e0) (h3.ext e0) (g1.ext e0) (g2.ext e0) (g3.ext e0)).mono ?_
  rintro e w1 ⟨rfl, x1⟩
  have X := e0.trans x1
  clear p0 p1 p2 p3 p4 p5 p6 p7 q0 q1 q2 q3 q4 q5 q6 q7
  go_wp2
  go_ret
  exact ⟨rfl, X⟩
end Go.Proofs.YtkphipgfcbckcaaGreatDoor

namespace Go.Proofs.YtkphipgfcbckcaaGreatDoor
open Go.RowKit

set_option maxRecDepth 100000 in
set_option maxHeartbeats 12800000 in
theorem impl_SignText (seed text : ByteArray) (v : Value) (pool : List ByteArray) (a : Int) (w : World) (h : Strs w v pool) (hs : ∀ s ∈ pool, s.size ≤ maxLen) (hsol : Solid v) (hT : Tabs w) :
    Calls Tryz.prog 26 #[.string seed, v, .int .i64 a, .string text] w fun e w' => ∃ a1 c1 a2 c2 a3 c3, e = .returned (.tuple #[.agg #[.int .i64 (sgnV seed pool a text).at_, .slice a1 (sgnV seed pool a text).op.length c1, .slice a2 (sgnV seed pool a text).sh.length c2, .slice a3 (sgnV seed pool a text).si.length c3], .bool (sgnOk seed pool a text)]) ∧ SigOwn w' w.heap.size (.slice a1 (sgnV seed pool a text).op.length c1) (.slice a2 (sgnV seed pool a text).sh.length c2) (.slice a3 (sgnV seed pool a text).si.length c3) (sgnV seed pool a text) ∧ Ext w w' := by
  have HT := Lib.hid hT
  clear hT
  obtain ⟨i0, hi, hz0, hz1, hz2⟩ := info_parts infoStrP
  obtain ⟨pa, pc, rfl⟩ := h.form
  by_cases hl : ¬ pool.length = 16
  · have hn1 : ((pool.length : Int) != 16) = true := by simp; omega
    have hn2 : ¬ ((pool.length : Int) = 16) := by omega
    have hno : sgnOk seed pool a text = false := by rw [sgnOk, decide_eq_false hl]; rfl
    have R := Lib.hid (sgn_no hno)
    have RB := Lib.hid hno
    clear hno
    clear hl
    go_enter Tryz.func26, Tryz.ntmps26
    go_wp2
    refine bodyPost_ret (v := .tuple #[.agg #[.int .i64 0, .slice none 0 0, .slice none 0 0, .slice none 0 0], .bool false]) (by simp [results, Tryz.results26, go_sem]) rfl ?_
    rw [R.out, RB.out]
    exact ⟨_, _, _, _, _, _, rfl, sigOwn_nil _ _, (by repeat (first | (with_reducible first | exact Ext.refl _ | assumption | apply Ext.alloc | apply Ext.drew | apply Ext.drewN | refine Ext.setCell ?_ ?_ _ | refine Ext.trans ?_ (by assumption)) | (show _ ≤ _; first | omega | (dsimp only; omega) | (simp; done) | (simp; omega))))⟩
  replace hl : pool.length = 16 := by omega
  have hn1 : ((pool.length : Int) != 16) = false := by simp; omega
  cases hin : inB a 0 15
  · have HI := Lib.hid hin
    have hno : sgnOk seed pool a text = false := by rw [sgnOk, hin]; simp
    have R := Lib.hid (sgn_no hno)
    have RB := Lib.hid hno
    clear hno
    clear hl hin
    go_enter Tryz.func26, Tryz.ntmps26
    go_wp2_with (go_at_call 53; refine (impl_in _ _ _ _).mono ?_; rw [HI.out]; rintro e w' ⟨rfl, rfl⟩)
    refine bodyPost_ret (v := .tuple #[.agg #[.int .i64 0, .slice none 0 0, .slice none 0 0, .slice none 0 0], .bool false]) (by simp [results, Tryz.results26, go_sem]) rfl ?_
    rw [R.out, RB.out]
    exact ⟨_, _, _, _, _, _, rfl, sigOwn_nil _ _, (by repeat (first | (with_reducible first | exact Ext.refl _ | assumption | apply Ext.alloc | apply Ext.drew | apply Ext.drewN | refine Ext.setCell ?_ ?_ _ | refine Ext.trans ?_ (by assumption)) | (show _ ≤ _; first | omega | (dsimp only; omega) | (simp; done) | (simp; omega))))⟩
  by_cases ht : ¬ text.size ≤ 200
  · have HI := Lib.hid hin
    have ht2 : (200 : Int) < text.size := by omega
    have hno : sgnOk seed pool a text = false := by rw [sgnOk, decide_eq_false ht]; simp
    have R := Lib.hid (sgn_no hno)
    have RB := Lib.hid hno
    clear hno
    clear hl hin ht
    go_enter Tryz.func26, Tryz.ntmps26
    go_wp2_with (go_at_call 53; refine (impl_in _ _ _ _).mono ?_; rw [HI.out]; rintro e w' ⟨rfl, rfl⟩)
    refine bodyPost_ret (v := .tuple #[.agg #[.int .i64 0, .slice none 0 0, .slice none 0 0, .slice none 0 0], .bool false]) (by simp [results, Tryz.results26, go_sem]) rfl ?_
    rw [R.out, RB.out]
    exact ⟨_, _, _, _, _, _, rfl, sigOwn_nil _ _, (by repeat (first | (with_reducible first | exact Ext.refl _ | assumption | apply Ext.alloc | apply Ext.drew | apply Ext.drewN | refine Ext.setCell ?_ ?_ _ | refine Ext.trans ?_ (by assumption)) | (show _ ≤ _; first | omega | (dsimp only; omega) | (simp; done) | (simp; omega))))⟩
  replace ht : text.size ≤ 200 := by omega
  have ht2 : ¬ (200 : Int) < text.size := by omega
  obtain ⟨ha0, ha1⟩ := inB_true.1 hin
  obtain ⟨an, rfl⟩ := Int.eq_ofNat_of_zero_le ha0
  have hlt : an < pool.length := by omega
  have han : (an : Int) < pool.length := by omega
  obtain ⟨pb, po, rfl, hpb, hpc⟩ := strs_at h an hlt
  have HPL := Lib.hid hl
  have hp16 : pool.length ≤ 16 := by omega
  by_cases hsd : ¬ seed.size ≤ 100
  · have HI := Lib.hid hin
    have HPN := Lib.hid (pub_no (seed := seed) (a := (an : Int)) (by rw [pubOk, decide_eq_false hsd]; rfl))
    have hno : sgnOk seed pool (an : Int) text = false := by rw [sgnOk, decide_eq_false hsd]; simp
    have R := Lib.hid (sgn_no hno)
    have RB := Lib.hid hno
    clear hno
    clear hl hin hsd hpc
    go_enter Tryz.func26, Tryz.ntmps26
    go_wp2_with fail
    refine (impl_in _ _ _ _).mono ?_
    rw [HI.out]
    rintro e w' ⟨rfl, rfl⟩
    go_wp2_with fail
    refine (impl_PublicOf seed an _ (HT.out.ext (by repeat (first | (with_reducible first | exact Ext.refl _ | assumption | apply Ext.alloc | apply Ext.drew | apply Ext.drewN | refine Ext.setCell ?_ ?_ _ | refine Ext.trans ?_ (by assumption)) | (show _ ≤ _; first | omega | (dsimp only; omega) | (simp; done) | (simp; omega)))))).mono ?_
    rw [HPN.out]
    rintro e w1 ⟨rfl, x1⟩
    have B8 := (Bx.new w #[.int .i64 0, .slice none 0 0, .slice none 0 0, .slice none 0 0] 30).ext x1
    have X1 : Ext w w1 := (by repeat (first | (with_reducible first | exact Ext.refl _ | assumption | apply Ext.alloc | apply Ext.drew | apply Ext.drewN | refine Ext.setCell ?_ ?_ _ | refine Ext.trans ?_ (by assumption)) | (show _ ≤ _; first | omega | (dsimp only; omega) | (simp; done) | (simp; omega))))
    have p0 := B8.2.1 0 _ rfl
    have f0 := B8.2.2 0
    have p1 := B8.2.1 1 _ rfl
    have f1 := B8.2.2 1
    have p2 := B8.2.1 2 _ rfl
    have f2 := B8.2.2 2
    have p3 := B8.2.1 3 _ rfl
    have f3 := B8.2.2 3
    go_wp2
    refine bodyPost_ret (v := .tuple #[.agg #[.int .i64 0, .slice none 0 0, .slice none 0 0, .slice none 0 0], .bool false]) (by simp [results, Tryz.results26, go_sem, p0, p1, p2, p3]) rfl ?_
    rw [R.out, RB.out]
    exact ⟨_, _, _, _, _, _, rfl, sigOwn_nil _ _, (((X1.setCell (Nat.le_refl _) _).setCell (Nat.le_refl _) _).setCell (Nat.le_refl _) _).setCell (Nat.le_refl _) _⟩
  have HPO := Lib.hid (pub_16 (seed := seed) (a := (an : Int)) (by rw [pubOk, decide_eq_true (show seed.size ≤ 100 by omega), hin]; rfl))
  replace hsd : seed.size ≤ 100 := by omega
  by_cases hpk : ¬ pubT seed (an : Int) = pool.getD an ⟨#[]⟩
  · have HI := Lib.hid hin
    have hno : sgnOk seed pool (an : Int) text = false := by rw [sgnOk, Int.toNat_natCast, decide_eq_false hpk]; simp
    have R := Lib.hid (sgn_no hno)
    have RB := Lib.hid hno
    clear hno
    generalize pool.getD an ⟨#[]⟩ = pp at *
    have HPK := Lib.hid hpk
    clear hl hin hpk
    go_enter Tryz.func26, Tryz.ntmps26
    go_wp2_with fail
    refine (impl_in _ _ _ _).mono ?_
    rw [HI.out]
    rintro e w' ⟨rfl, rfl⟩
    go_wp2_with fail
    refine (impl_PublicOf seed an _ (HT.out.ext (by repeat (first | (with_reducible first | exact Ext.refl _ | assumption | apply Ext.alloc | apply Ext.drew | apply Ext.drewN | refine Ext.setCell ?_ ?_ _ | refine Ext.trans ?_ (by assumption)) | (show _ ≤ _; first | omega | (dsimp only; omega) | (simp; done) | (simp; omega)))))).mono ?_
    generalize hgp : pubT seed (an : Int) = pk at *
    have HGP := Lib.hid hgp
    clear hgp
    rintro e w1 ⟨rfl, x1⟩
    have B8 := (Bx.new w #[.int .i64 0, .slice none 0 0, .slice none 0 0, .slice none 0 0] 30).ext x1
    have X1 : Ext w w1 := (by repeat (first | (with_reducible first | exact Ext.refl _ | assumption | apply Ext.alloc | apply Ext.drew | apply Ext.drewN | refine Ext.setCell ?_ ?_ _ | refine Ext.trans ?_ (by assumption)) | (show _ ≤ _; first | omega | (dsimp only; omega) | (simp; done) | (simp; omega))))
    obtain ⟨n1, n2⟩ := not_empty (s := pk) (by have := HPO.out; omega)
    have e1 : w1.cell? ⟨pb, po + an, none⟩ = some (.string pp) := (X1.cell _ _ hpb).trans hpc
    have q1 : (pk.toList != pp.toList) = true := by rw [bne, toList_beq, decide_eq_false HPK.out]; rfl
    have q2 : (pk.toList == pp.toList) = false := by rw [toList_beq, decide_eq_false HPK.out]
    have p0 := B8.2.1 0 _ rfl
    have f0 := B8.2.2 0
    have p1 := B8.2.1 1 _ rfl
    have f1 := B8.2.2 1
    have p2 := B8.2.1 2 _ rfl
    have f2 := B8.2.2 2
    have p3 := B8.2.1 3 _ rfl
    have f3 := B8.2.2 3
    go_wp2
    refine bodyPost_ret (v := .tuple #[.agg #[.int .i64 0, .slice none 0 0, .slice none 0 0, .slice none 0 0], .bool false]) (by simp [results, Tryz.results26, go_sem, p0, p1, p2, p3]) rfl ?_
    rw [R.out, RB.out]
    exact ⟨_, _, _, _, _, _, rfl, sigOwn_nil _ _, (((X1.setCell (Nat.le_refl _) _).setCell (Nat.le_refl _) _).setCell (Nat.le_refl _) _).setCell (Nat.le_refl _) _⟩
  replace hpk : pubT seed (an : Int) = pool.getD an ⟨#[]⟩ := Classical.not_not.1 hpk
  have hok : sgnOk seed pool (an : Int) text = true := by rw [sgnOk, Int.toNat_natCast, decide_eq_true hl, decide_eq_true ht, decide_eq_true hsd, decide_eq_true hpk, hin]; rfl
  have R := Lib.hid (sgn_yes hok)
  have RB := Lib.hid hok
  have HI := Lib.hid hin
  have HA := HI
  have HPK := Lib.hid hpk.symm
  clear hl hin hpk hok
  go_enter Tryz.func26, Tryz.ntmps26
  go_wp2_with fail
  refine (impl_in _ _ _ _).mono ?_
  rw [HI.out]
  rintro e w' ⟨rfl, rfl⟩
  go_wp2_with fail
  refine (impl_PublicOf seed an _ (HT.out.ext (by repeat (first | (with_reducible first | exact Ext.refl _ | assumption | apply Ext.alloc | apply Ext.drew | apply Ext.drewN | refine Ext.setCell ?_ ?_ _ | refine Ext.trans ?_ (by assumption)) | (show _ ≤ _; first | omega | (dsimp only; omega) | (simp; done) | (simp; omega)))))).mono ?_
  rw [HPK.out] at hpc
  generalize hgp : pubT seed (an : Int) = pk at *
  clear hgp
  rintro e w1 ⟨rfl, x1⟩
  have B8 := (Bx.new w #[.int .i64 0, .slice none 0 0, .slice none 0 0, .slice none 0 0] 30).ext x1
  have X1 : Ext w w1 := (by repeat (first | (with_reducible first | exact Ext.refl _ | assumption | apply Ext.alloc | apply Ext.drew | apply Ext.drewN | refine Ext.setCell ?_ ?_ _ | refine Ext.trans ?_ (by assumption)) | (show _ ≤ _; first | omega | (dsimp only; omega) | (simp; done) | (simp; omega))))
  have s81 := B8.1
  obtain ⟨n1, n2⟩ := not_empty (s := pk) (by have := HPO.out; omega)
  have e1 : w1.cell? ⟨pb, po + an, none⟩ = some (.string pk) := (X1.cell _ _ hpb).trans hpc
  have B := Bx.new w1 #[.int .i64 (an : Int), .slice none 0 0, .slice none 0 0, .slice none 0 0] 30
  have e2 : Ext w1 (w1.alloc (Obj.cells #[.int .i64 (an : Int), .slice none 0 0, .slice none 0 0, .slice none 0 0] 30)) := (by repeat (first | (with_reducible first | exact Ext.refl _ | assumption | apply Ext.alloc | apply Ext.drew | apply Ext.drewN | refine Ext.setCell ?_ ?_ _ | refine Ext.trans ?_ (by assumption)) | (show _ ≤ _; first | omega | (dsimp only; omega) | (simp; done) | (simp; omega))))
  go_wp2_with fail
  refine (impl_SignBitsOf text _ ht (HT.out.ext (X1.trans e2))).mono ?_
  generalize hgi : sgIdx text = ix at *
  have HGI := Lib.hid hgi
  clear hgi e1 hpc n1 n2
  rintro e w2 ⟨rfl, x2⟩
  replace B := B.ext x2
  replace B8 := (B8.ext e2).ext x2
  have X2 := (X1.trans e2).trans x2
  have s2 : w1.heap.size < w2.heap.size := B.1
  go_wp2
  go_loopw [49] (fun i wr => ∃ (k : Nat) (a1 a2 : Option Addr) (c1 c2 : Nat), i = .int .i64 k ∧ k ≤ 8 ∧ Bx wr w1.heap.size [.int .i64 (an : Int), .slice a1 k c1, .slice a2 k c2, .slice none 0 0] ∧ wr.ownsRow (w1.heap.size + 1) 9 1 (.slice a1 k c1) k ((sgnOpK seed an text k).map Value.string) ∧ wr.ownsRow (w1.heap.size + 1) 9 1 (.slice a2 k c2) k ((sgnShK seed an text k).map Value.string) ∧ Off (.slice a1 k c1) (.slice a2 k c2) ∧ Bx wr w.heap.size [.int .i64 0, .slice none 0 0, .slice none 0 0, .slice none 0 0] ∧ Ext w wr ∧ w1.heap.size < wr.heap.size) (fun i _ => 8 - (intOf i).toNat)
  case atStart => exact ⟨0, none, none, 0, 0, rfl, by omega, B, World.ownsRow_nil _ _ _ _, World.ownsRow_nil _ _ _ _, nil_off _, B8, X2, s2⟩
  case round =>
    clear B B8 X2 s2 x2 e2
    obtain ⟨k, a1, a2, c1, c2, rfl, hk, B, own1, own2, hoff, B8, hx, s2⟩ := hrel
    by_cases hlt8 : k < 8
    · have hlt8' : (k : Int) < 8 := by omega
      have HB := Lib.hid (show inB (k : Int) 0 7 = true from inB_true.2 (by omega))
      have HO1 := Lib.hid own1
      have HO2 := Lib.hid own2
      have HOF := Lib.hid hoff
      have HBB := Lib.hid B
      have HB8 := Lib.hid B8
      have HS1 := Lib.hid (sgnOp_succ seed an text k)
      have HS2 := Lib.hid (sgnSh_succ seed an text k)
      rw [HGI.out] at HS1 HS2
      clear own1 own2 hoff B8
      go_wp2_with fail
      refine (impl_BitOf ix k _).mono ?_
      have hbt := bitT_two ix k
      generalize bitT ix k = bv at *
      rintro e w' ⟨rfl, rfl⟩
      have HV := Lib.hid (show inB bv 0 1 = true from inB_true.2 (by omega))
      have HV2 := Lib.hid (show inB (1 - bv) 0 1 = true from inB_true.2 (by omega))
      have hw1 : IntKind.i64.wrap (1 - bv) = 1 - bv := IntWalk.i64_in _ (by omega)
      generalize hsc : secT seed an k bv = sc at *
      generalize hsd2 : secT seed an k (1 - bv) = sd at *
      have HSC := Lib.hid hsc
      have HSD := Lib.hid hsd2
      have zsd : sd.size = 16 := by rw [← hsd2]; exact sec_16 _ _ _ hsd
      clear hsc hsd2
      have m1 := B.2.1 1 _ rfl
      have lB := B.1
      clear B
      go_wp2_with fail
      go_region_law (first | (refine step_append_lies _ rfl (.tmp 56) (.tmp 62) 24 (by rfl) (w1.heap.size + 1) 9 i0 (.string ⟨#[]⟩) 1 16 Tryz.underlying24 hi hz0 hz1 hz2 rfl (by decide) _ _ _ (by rfl) (own_alloc O1b _) ⟨wB.heap.size, 0, none⟩ 1 1 [.string sc] (by rfl) rfl (World.news_of_block (heap_alloc_new wB (Obj.cells #[Value.string sc] 9))) (by intro u hu; simp at hu; rcases hu with rfl; rfl) (by decide) (by unfold maxLen; omega) (by omega) (by simp; omega) _ rfl ?_; intro g cap w9 hown9 hgrow hat hlt9; have B9 := ((HBB.out.ext y2).ext ((Ext.refl wB).alloc (Obj.cells #[Value.string sc] 9))).grown hgrow (fun e => by have := (own_lt O1b _ e).1; omega); have R9 := Lib.hid (((HB8.out.ext y2).ext ((Ext.refl wB).alloc (Obj.cells #[Value.string sc] 9))).grown hgrow (fun e => by have := (own_lt O1b _ e).1; omega)); have O2c := Lib.hid (own_grown2 (own_alloc O2b (Obj.cells #[Value.string sc] 9)) hgrow (fun k hk e => HOF.out k hk e)); have x9 : Ext w w9 := own_ext_of ((hx.trans y2).alloc _) (own_alloc O1b _) hgrow (by omega); have OF9 := Lib.hid (off_lies (v' := .slice (some ⟨g, 0, none⟩) (k + 1) cap) HOF.out rfl hat (fun k e => by have := (own_lt O2b k e).2; rw [World.size_alloc]; omega)); have c9 := B9.2.1 1 _ rfl; have f9 := B9.2.2 1; replace B9 := Lib.hid B9; have O9 := Lib.hid hown9; clear hgrow hat hown9) | (go_simp; go_at_call 57; refine (impl_SecretOf seed an k bv _ hsd HA.out HB.out HV.out (by exact HT.out.ext (by repeat (first | (with_reducible first | exact Ext.refl _ | assumption | apply Ext.alloc | apply Ext.drew | apply Ext.drewN | refine Ext.setCell ?_ ?_ _ | refine Ext.trans ?_ (by assumption)) | (show _ ≤ _; first | omega | (dsimp only; omega) | (simp; done) | (simp; omega)))))).mono ?_; rw [HSC.out]; rintro e wB ⟨rfl, xB⟩; have y2 : Ext wr wB := (by repeat (first | (with_reducible first | exact Ext.refl _ | assumption | apply Ext.alloc | apply Ext.drew | apply Ext.drewN | refine Ext.setCell ?_ ?_ _ | refine Ext.trans ?_ (by assumption)) | (show _ ≤ _; first | omega | (dsimp only; omega) | (simp; done) | (simp; omega)))); have q1 := (y2.cell _ _ lB).trans m1; have O1b := own_ext HO1.out y2; have O2b := own_ext HO2.out y2; have lB2 := Nat.lt_of_lt_of_le lB y2.size))
      all_goals
        go_wp2_with fail
        replace B9 := B9.out.set 1 (.slice (some ⟨g, 0, none⟩) (k + 1) cap) (by simp)
        have HR10 := Lib.hid (R9.out.far (c := w1.heap.size) (by omega) 1 (.slice (some ⟨g, 0, none⟩) (k + 1) cap))
        have HO1c := Lib.hid (own_below O9.out (p := ⟨w1.heap.size, 1, none⟩) (u := .slice (some ⟨g, 0, none⟩) (k + 1) cap) (by dsimp only; omega))
        have HO2c := Lib.hid (own_below O2c.out (p := ⟨w1.heap.size, 1, none⟩) (u := .slice (some ⟨g, 0, none⟩) (k + 1) cap) (by dsimp only; omega))
        have x10 : Ext w (w9.setCell ⟨w1.heap.size, 1, none⟩ (.slice (some ⟨g, 0, none⟩) (k + 1) cap)) := x9.setCell (by dsimp only; omega) _
        have hat10 : w1.heap.size < (w9.setCell ⟨w1.heap.size, 1, none⟩ (.slice (some ⟨g, 0, none⟩) (k + 1) cap)).heap.size := B9.1
        generalize w9.setCell ⟨w1.heap.size, 1, none⟩ (.slice (some ⟨g, 0, none⟩) (k + 1) cap) = W10 at *
        have HBC := Lib.hid B9
        have m2 := B9.2.1 2 _ rfl
        clear B9 R9 O9 O2c x9
        go_region_law (first | (refine step_append_lies _ rfl (.tmp 66) (.tmp 74) 24 (by rfl) (w1.heap.size + 1) 9 i0 (.string ⟨#[]⟩) 1 16 Tryz.underlying24 hi hz0 hz1 hz2 rfl (by decide) _ _ _ (by rfl) (own_alloc O2d _) ⟨wD.heap.size, 0, none⟩ 1 1 [.string (lkH sd)] (by rfl) rfl (World.news_of_block (heap_alloc_new wD (Obj.cells #[Value.string (lkH sd)] 9))) (by intro u hu; simp at hu; rcases hu with rfl; rfl) (by decide) (by unfold maxLen; omega) (by omega) (by simp; omega) _ rfl ?_; intro g5 cap5 we hown9 hgrow hat hlt9; have B9 := ((HBC.out.ext y4).ext ((Ext.refl wD).alloc (Obj.cells #[Value.string (lkH sd)] 9))).grown hgrow (fun e => by have := (own_lt O2d _ e).1; omega); have RE := Lib.hid (((HR10.out.ext y4).ext ((Ext.refl wD).alloc (Obj.cells #[Value.string (lkH sd)] 9))).grown hgrow (fun e => by have := (own_lt O2d _ e).1; omega)); have OE1 := Lib.hid (own_grown2 (own_alloc O1d (Obj.cells #[Value.string (lkH sd)] 9)) hgrow (fun k hk e => OF9.out k e hk)); have xe : Ext w we := own_ext_of ((x10.trans y4).alloc _) (own_alloc O2d _) hgrow (by omega); have OFE := Lib.hid (Off.symm (off_lies (v' := .slice (some ⟨g5, 0, none⟩) (k + 1) cap5) (Off.symm OF9.out) rfl hat (fun k e => by have := (own_lt O1d k e).2; rw [World.size_alloc]; omega))); have c9 := B9.2.1 2 _ rfl; have f9 := B9.2.2 2; have BE := Lib.hid B9; have OE2 := Lib.hid hown9; clear hgrow hat hown9 B9) | (go_simp; go_at_call 57; refine (impl_SecretOf seed an k (1 - bv) _ hsd HA.out HB.out HV2.out (by exact HT.out.ext (by repeat (first | (with_reducible first | exact Ext.refl _ | assumption | apply Ext.alloc | apply Ext.drew | apply Ext.drewN | refine Ext.setCell ?_ ?_ _ | refine Ext.trans ?_ (by assumption)) | (show _ ≤ _; first | omega | (dsimp only; omega) | (simp; done) | (simp; omega)))))).mono ?_; rw [HSD.out]; rintro e wC ⟨rfl, xC⟩; have y3 : Ext W10 wC := (by repeat (first | (with_reducible first | exact Ext.refl _ | assumption | apply Ext.alloc | apply Ext.drew | apply Ext.drewN | refine Ext.setCell ?_ ?_ _ | refine Ext.trans ?_ (by assumption)) | (show _ ≤ _; first | omega | (dsimp only; omega) | (simp; done) | (simp; omega)))); have q2 := (y3.cell _ _ hat10).trans m2; have lC2 := Nat.lt_of_lt_of_le hat10 y3.size) | (go_simp; go_at_call 58; refine (impl_LockOf sd _ (by unfold maxLen; omega) (by exact HT.out.ext (by repeat (first | (with_reducible first | exact Ext.refl _ | assumption | apply Ext.alloc | apply Ext.drew | apply Ext.drewN | refine Ext.setCell ?_ ?_ _ | refine Ext.trans ?_ (by assumption)) | (show _ ≤ _; first | omega | (dsimp only; omega) | (simp; done) | (simp; omega)))))).mono ?_; rintro e wD ⟨rfl, xD⟩; have y4 : Ext W10 wD := (by repeat (first | (with_reducible first | exact Ext.refl _ | assumption | apply Ext.alloc | apply Ext.drew | apply Ext.drewN | refine Ext.setCell ?_ ?_ _ | refine Ext.trans ?_ (by assumption)) | (show _ ≤ _; first | omega | (dsimp only; omega) | (simp; done) | (simp; omega)))); have q3 := (y4.cell _ _ hat10).trans m2; have O1d := own_ext HO1c.out y4; have O2d := own_ext HO2c.out y4; have lD2 := Nat.lt_of_lt_of_le hat10 y4.size))
        all_goals
          go_wp2
          go_roundw
          case rel => exact ⟨k + 1, _, _, _, _, by go_num, by omega, BE.out.set 2 _ (by simp), by rw [HS1.out, List.map_append]; exact own_below OE1.out (by dsimp only; omega), by rw [HS2.out, List.map_append]; exact own_below OE2.out (by dsimp only; omega), OFE.out, RE.out.far (by omega) _ _, xe.setCell (by dsimp only; omega) _, by rw [World.size_setCell]; exact BE.out.1⟩
          case measure => simp [intOf]; omega
    · obtain rfl : k = 8 := by omega
      have HO1 := Lib.hid own1
      have HO2 := Lib.hid own2
      have HOF := Lib.hid hoff
      have L1 := own_lt own1
      have L2 := own_lt own2
      clear own1 own2 hoff
      go_wp2
      go_loopw [15, 16] (fun lv sv wr => ∃ (n s : Nat) (ys acc : List ByteArray) (a3 : Option Addr) (c3 : Nat), sv = .int .i64 (s : Nat) ∧ s < 2 ^ n ∧ ys.length = 2 ^ n ∧ acc.length + n = 4 ∧ Strs wr lv ys ∧ (∀ k, lv.ownBlock = some k → k < w.heap.size ∨ w1.heap.size < k) ∧ Bx wr w1.heap.size [.int .i64 (an : Int), .slice a1 8 c1, .slice a2 8 c2, .slice a3 acc.length c3] ∧ wr.ownsRow (w1.heap.size + 1) 9 1 (.slice a3 acc.length c3) acc.length (acc.map Value.string) ∧ Off (.slice a3 acc.length c3) lv ∧ (Off (.slice a1 8 c1) (.slice a3 acc.length c3) ∧ Off (.slice a2 8 c2) (.slice a3 acc.length c3)) ∧ wr.ownsRow (w1.heap.size + 1) 9 1 (.slice a1 8 c1) 8 ((sgnOpK seed an text 8).map Value.string) ∧ wr.ownsRow (w1.heap.size + 1) 9 1 (.slice a2 8 c2) 8 ((sgnShK seed an text 8).map Value.string) ∧ Bx wr w.heap.size [.int .i64 0, .slice none 0 0, .slice none 0 0, .slice none 0 0] ∧ acc ++ sideT 16 n s ys = sideT 16 4 an pool ∧ (∀ s ∈ ys, s.size ≤ maxLen) ∧ Ext w wr) (fun lv _ _ => lenOf lv)
      case atStart => exact ⟨4, an, pool, [], none, 0, rfl, by omega, HPL.out, rfl, h.ext hx, (fun k e => Or.inl (by injection e with e; dsimp only at e; omega)), B, World.ownsRow_nil _ _ _ _, nil_off _, ⟨off_nil _, off_nil _⟩, HO1.out, HO2.out, B8, rfl, hs, hx⟩
      case round =>
        clear B B8 hx s2
        obtain ⟨n, s, ys, acc, a3, c3, rfl, hs2', hyl, hac, hst, hlb, B, own3, hof3, ⟨hof1, hof2⟩, own1, own2, B8, htop, hfit, hx⟩ := hrel
        obtain ⟨ay, cy, rfl⟩ := hst.form
        cases n with
        | zero =>
          have hy1 : ys.length = 1 := hyl
          have hgt : ¬ ((1 : Int) < ys.length) := by omega
          have HH := Lib.hid (show acc = sideT 16 4 an pool by rw [← htop]; simp [sideT])
          have p0 := B.2.1 0 _ rfl
          have p1 := B.2.1 1 _ rfl
          have p2 := B.2.1 2 _ rfl
          have p3 := B.2.1 3 _ rfl
          have z0 := B8.2.1 0 _ rfl
          have z1 := B8.2.1 1 _ rfl
          have z2 := B8.2.1 2 _ rfl
          have z3 := B8.2.1 3 _ rfl
          have f0 := B8.2.2 0
          have f1 := B8.2.2 1
          have f2 := B8.2.2 2
          have f3 := B8.2.2 3
          have b4 := fun (e : List Value) (v : Value) (n : Nat) (ho : wr.ownsRow (w1.heap.size + 1) 9 1 v n e) => own_below (own_below (own_below (own_below ho (p := ⟨w.heap.size, 0, none⟩) (u := .int .i64 (an : Int)) (by dsimp only; omega)) (p := ⟨w.heap.size, 1, none⟩) (u := .slice a1 8 c1) (by dsimp only; omega)) (p := ⟨w.heap.size, 2, none⟩) (u := .slice a2 8 c2) (by dsimp only; omega)) (p := ⟨w.heap.size, 3, none⟩) (u := .slice a3 acc.length c3) (by dsimp only; omega)
          have Q1 := Lib.hid (b4 _ _ _ own1)
          have Q2 := Lib.hid (b4 _ _ _ own2)
          have Q3 := Lib.hid (b4 _ _ _ own3)
          have HF1 := Lib.hid hof1
          have HF2 := Lib.hid hof2
          have xF : Ext w ((((wr.setCell ⟨w.heap.size, 0, none⟩ (.int .i64 (an : Int))).setCell ⟨w.heap.size, 1, none⟩ (.slice a1 8 c1)).setCell ⟨w.heap.size, 2, none⟩ (.slice a2 8 c2)).setCell ⟨w.heap.size, 3, none⟩ (.slice a3 acc.length c3)) := (((hx.setCell (by dsimp only; omega) _).setCell (by dsimp only; omega) _).setCell (by dsimp only; omega) _).setCell (by dsimp only; omega) _
          have RR := Lib.hid ((((B8.set 0 (.int .i64 (an : Int)) (by simp)).set 1 (.slice a1 8 c1) (by simp)).set 2 (.slice a2 8 c2) (by simp)).set 3 (.slice a3 acc.length c3) (by simp))
          clear htop own1 own2 own3 hof1 hof2 hof3 b4 B B8 hst hlb hs2' hyl hac
          go_wp2
          generalize (((wr.setCell ⟨w.heap.size, 0, none⟩ (.int .i64 (an : Int))).setCell ⟨w.heap.size, 1, none⟩ (.slice a1 8 c1)).setCell ⟨w.heap.size, 2, none⟩ (.slice a2 8 c2)).setCell ⟨w.heap.size, 3, none⟩ (.slice a3 acc.length c3) = WF at *
          have k0 := RR.out.2.1 0 _ rfl
          have k1 := RR.out.2.1 1 _ rfl
          have k2 := RR.out.2.1 2 _ rfl
          have k3 := RR.out.2.1 3 _ rfl
          refine bodyPost_ret (v := .tuple #[.agg #[.int .i64 (an : Int), .slice a1 8 c1, .slice a2 8 c2, .slice a3 acc.length c3], .bool true]) (by simp [results, Tryz.results26, go_sem, k0, k1, k2, k3]) rfl ?_
          rw [R.out, RB.out, Int.toNat_natCast, ← HH.out]
          refine ⟨a1, c1, a2, c2, a3, c3, ?_, ⟨?_, ?_, ?_, ?_, ?_, ?_⟩, xF⟩
          · simp only [sgnOp_len, sgnSh_len]
          · unfold OwnStrs; simp only [sgnOp_len]; exact own_mono Q1.out (by omega)
          · unfold OwnStrs; simp only [sgnSh_len]; exact own_mono Q2.out (by omega)
          · exact own_mono Q3.out (by omega)
          · simp only [sgnOp_len, sgnSh_len]; exact HOF.out
          · simp only [sgnOp_len]; exact HF1.out
          · simp only [sgnSh_len]; exact HF2.out
        | succ n =>
          have hp : 0 < 2 ^ n := Nat.pow_pos (by decide)
          have hp2 : 2 ^ n ≤ 2 ^ 3 := Nat.pow_le_pow_right (by decide) (by omega)
          rw [Nat.pow_succ] at hyl hs2'
          have hgt : (1 : Int) < ys.length := by omega
          have hul : (upL ys 16).length = 2 ^ n := by rw [upL_length]; omega
          have hb : ys.length ≤ 1000 := by omega
          have hs15 : s < 16 := by omega
          have hxor := beside16 ⟨s, hs15⟩
          have jq := (half_all ⟨s, hs15⟩).2
          dsimp only at hxor jq
          have htl : besideN s < ys.length := by rw [hyl]; exact beside_lt hs2'
          have hltm : (upL ys 16).length < ys.length := by omega
          have HU := Lib.hid hul
          have HH := Lib.hid htop
          have HS := Lib.hid (show s / 2 < 2 ^ n by omega)
          have HAC := Lib.hid hac
          obtain ⟨b1, o1, rfl, hb1, e1⟩ := strs_at hst (besideN s) htl
          generalize hT' : ys.getD (besideN s) ⟨#[]⟩ = T at *
          have HG := Lib.hid hT'
          generalize hX : besideN s = x at *
          have HX := Lib.hid hX
          have j1 : (0 : Int) ≤ (x : Int) := by omega
          have j2 : (x : Int) < ys.length := by omega
          have jw : IntKind.i64.wrap (((s / 2 : Nat) : Int)) = ((s / 2 : Nat) : Int) := IntWalk.i64_in _ (by omega)
          have hal : acc.length ≤ 4 := by omega
          have HO3 := Lib.hid own3
          have HP1 := Lib.hid own1
          have HP2 := Lib.hid own2
          have HB3 := Lib.hid B
          have HB8 := Lib.hid B8
          have HST := Lib.hid hst
          have HF1 := Lib.hid hof1
          have HF2 := Lib.hid hof2
          have HF3 := Lib.hid hof3
          have m3 := B.2.1 3 _ rfl
          have lB := B.1
          have eW : Ext wr (wr.drew.alloc (Obj.cells #[Value.string T] 9)) := (by repeat (first | (with_reducible first | exact Ext.refl _ | assumption | apply Ext.alloc | apply Ext.drew | apply Ext.drewN | refine Ext.setCell ?_ ?_ _ | refine Ext.trans ?_ (by assumption)) | (show _ ≤ _; first | omega | (dsimp only; omega) | (simp; done) | (simp; omega))))
          clear htop hul hyl hp hp2 hs2' hT' hX hac own1 own2 own3 B B8 hst hof1 hof2 hof3
          go_wp2_with fail
          go_region_law ((refine step_append_lies _ rfl (.tmp 88) (.tmp 94) 24 (by rfl) (w1.heap.size + 1) 9 i0 (.string ⟨#[]⟩) 1 16 Tryz.underlying24 hi hz0 hz1 hz2 rfl (by decide) _ _ _ (by rfl) (own_alloc (own_drew HO3.out) _) ⟨wr.heap.size, 0, none⟩ 1 1 [.string T] (by rfl) rfl (World.news_of_block (heap_alloc_new wr.drew (Obj.cells #[Value.string T] 9))) (by intro u hu; simp at hu; rcases hu with rfl; rfl) (by decide) (by unfold maxLen; omega) (by omega) (by simp; omega) _ rfl ?_; intro g cap w9 hown9 hgrow hat hlt9; have B9 := (HB3.out.ext eW).grown hgrow (fun e => by have := (own_lt HO3.out _ e).1; omega); have R9 := Lib.hid ((HB8.out.ext eW).grown hgrow (fun e => by have := (own_lt HO3.out _ e).1; omega)); have P1c := Lib.hid (own_grown2 (own_ext HP1.out eW) hgrow (fun k hk e => HF1.out k e hk)); have P2c := Lib.hid (own_grown2 (own_ext HP2.out eW) hgrow (fun k hk e => HF2.out k e hk)); have st9 := Lib.hid (row_grown (HST.out.ext eW) hgrow (fun k hk e => HF3.out k hk e)); have x9 : Ext w w9 := own_ext_of (hx.trans eW) (own_alloc (own_drew HO3.out) _) hgrow (by omega); have N1 := Lib.hid (Off.symm (off_lies (v' := .slice (some ⟨g, 0, none⟩) (acc.length + 1) cap) (Off.symm HF1.out) rfl hat (fun k e => by have := (own_lt HP1.out k e).2; show k < (wr.alloc (Obj.cells #[Value.string T] 9)).heap.size; rw [World.size_alloc]; exact Nat.lt_succ_of_lt this))); have N2 := Lib.hid (Off.symm (off_lies (v' := .slice (some ⟨g, 0, none⟩) (acc.length + 1) cap) (Off.symm HF2.out) rfl hat (fun k e => by have := (own_lt HP2.out k e).2; show k < (wr.alloc (Obj.cells #[Value.string T] 9)).heap.size; rw [World.size_alloc]; exact Nat.lt_succ_of_lt this))); have c9 := B9.2.1 3 _ rfl; have f9 := B9.2.2 3; replace B9 := Lib.hid B9; have O9 := Lib.hid hown9; clear hgrow hat hown9 eW))
          all_goals
            go_wp2_with fail
            have gS : w9.grownBy (w9.setCell ⟨w1.heap.size, 3, none⟩ (.slice (some ⟨g, 0, none⟩) (acc.length + 1) cap)) (some w1.heap.size) := (Mut.refl w1.heap.size w9).setCell 3 _
            have B10 := B9.out.set 3 (.slice (some ⟨g, 0, none⟩) (acc.length + 1) cap) (by simp)
            have R10 := R9.out.far (c := w1.heap.size) (by omega) 3 (.slice (some ⟨g, 0, none⟩) (acc.length + 1) cap)
            have P1d := own_below P1c.out (p := ⟨w1.heap.size, 3, none⟩) (u := .slice (some ⟨g, 0, none⟩) (acc.length + 1) cap) (by dsimp only; omega)
            have P2d := own_below P2c.out (p := ⟨w1.heap.size, 3, none⟩) (u := .slice (some ⟨g, 0, none⟩) (acc.length + 1) cap) (by dsimp only; omega)
            have O3d := own_below O9.out (p := ⟨w1.heap.size, 3, none⟩) (u := .slice (some ⟨g, 0, none⟩) (acc.length + 1) cap) (by dsimp only; omega)
            have st10 := row_grown st9.out gS (fun k hk e => by injection hk with hk; have := hlb k e; omega)
            have x10 : Ext w (w9.setCell ⟨w1.heap.size, 3, none⟩ (.slice (some ⟨g, 0, none⟩) (acc.length + 1) cap)) := x9.setCell (by dsimp only; omega) _
            generalize w9.setCell ⟨w1.heap.size, 3, none⟩ (.slice (some ⟨g, 0, none⟩) (acc.length + 1) cap) = W10 at *
            refine (impl_above2 _ ys 16 _ st10 hfit hb (by exact HT.out.ext x10)).mono ?_
            rintro e w4 ⟨a4, c4, rfl, o4, x4⟩
            have s4 := o4.strs
            have hz4 := B10.1
            have HOFn := Lib.hid (show Off (.slice (some ⟨g, 0, none⟩) (acc.length + 1) cap) (.slice a4 (upL ys 16).length c4) from off_new O3d o4 (Nat.le_refl _))
            have hl4 : ∀ k, (Value.slice a4 (upL ys 16).length c4).ownBlock = some k → k < w.heap.size ∨ w1.heap.size < k := fun k e => Or.inr (by have := (own_lt o4 k e).1; omega)
            have Z1 := Lib.hid (own_ext P1d x4)
            have Z2 := Lib.hid (own_ext P2d x4)
            have Z3 := Lib.hid (own_ext O3d x4)
            have Z4 := Lib.hid (B10.ext x4)
            have Z5 := Lib.hid (R10.ext x4)
            have x5 := x10.trans x4
            clear o4 P1d P2d O3d B10 R10 st10 gS c9 f9 x9 x4
            go_wp2
            go_roundw
            case rel => first | exact ⟨n, s / 2, upL ys 16, acc ++ [T], some ⟨g, 0, none⟩, cap, by go_num, HS.out, HU.out, by have := HAC.out; rw [List.length_append, List.length_singleton]; omega, s4, hl4, by rw [List.length_append]; exact Z4.out, by rw [List.length_append, List.map_append]; exact Z3.out, by rw [List.length_append]; exact HOFn.out, by rw [List.length_append]; exact ⟨N1.out, N2.out⟩, Z1.out, Z2.out, Z5.out, by rw [← HH.out, sideT, HX.out, HG.out]; simp, up_fit _ _ _, x5⟩ | ((repeat apply Exists.intro); exact ⟨⟨n, s / 2, upL ys 16, acc ++ [T], some ⟨g, 0, none⟩, cap, by go_num, HS.out, HU.out, by have := HAC.out; rw [List.length_append, List.length_singleton]; omega, s4, hl4, by rw [List.length_append]; exact Z4.out, by rw [List.length_append, List.map_append]; exact Z3.out, by rw [List.length_append]; exact HOFn.out, by rw [List.length_append]; exact ⟨N1.out, N2.out⟩, Z1.out, Z2.out, Z5.out, by rw [← HH.out, sideT, HX.out, HG.out]; simp, up_fit _ _ _, x5⟩, rfl⟩)
            case measure => exact hltm
end Go.Proofs.YtkphipgfcbckcaaGreatDoor

namespace Go.Proofs.YtkphipgfcbckcaaGreatDoor
open Go.RowKit

/-- what a stamp of a head is -/
def stV (seed : ByteArray) (pool : List ByteArray) (h ep : Int) (r p : ByteArray) : SigV := if headOk h ep r p = true then sgnV seed pool (stampAt h ep) (stampH h ep r p) else ⟨0, [], [], []⟩
def stK (seed : ByteArray) (pool : List ByteArray) (h ep : Int) (r p : ByteArray) : Bool := headOk h ep r p && sgnOk seed pool (stampAt h ep) (stampH h ep r p)
set_option maxRecDepth 100000 in
set_option maxHeartbeats 3200000 in
theorem spec_StampHead (seed : ByteArray) (v : Value) (pool : List ByteArray) (h ep : Int) (r p : ByteArray) (w : World) (hst : Strs w v pool) (hs : ∀ s ∈ pool, s.size ≤ maxLen) (hsol : Solid v) :
    Calls Tryz.prog 9 #[.string seed, v, .agg #[.int .i64 h, .int .i64 ep, .string r, .string p]] w fun e w' => ∃ a1 c1 a2 c2 a3 c3, e = .returned (.tuple #[.agg #[.int .i64 (stV seed pool h ep r p).at_, .slice a1 (stV seed pool h ep r p).op.length c1, .slice a2 (stV seed pool h ep r p).sh.length c2, .slice a3 (stV seed pool h ep r p).si.length c3], .bool (stK seed pool h ep r p)]) ∧ SigOwn w' w.heap.size (.slice a1 (stV seed pool h ep r p).op.length c1) (.slice a2 (stV seed pool h ep r p).sh.length c2) (.slice a3 (stV seed pool h ep r p).si.length c3) (stV seed pool h ep r p) ∧ Ext w w' := by
  obtain ⟨pa, pc, rfl⟩ := hst.form
  have HST := Lib.hid hst
  clear hst
  cases hh : headOk h ep r p
  · have HV := Lib.hid (show stV seed pool h ep r p = ⟨0, [], [], []⟩ by rw [stV, if_neg (by rw [hh]; decide)])
    have HK := Lib.hid (show stK seed pool h ep r p = false by rw [stK, hh]; rfl)
    have HH := Lib.hid hh
    clear hh
    go_enter Tryz.func9, Tryz.ntmps9
    go_wp2_with fail
    have P : Bx ((w.alloc (Obj.cells #[.int .i64 h, .int .i64 ep, .string r, .string p] 26)).alloc (Obj.cells #[.int .i64 0, .slice none 0 0, .slice none 0 0, .slice none 0 0] 30)) w.heap.size [.int .i64 h, .int .i64 ep, .string r, .string p] := (Bx.new w _ _).ext ((Ext.refl _).alloc _)
    have R := Bx.new (w.alloc (Obj.cells #[.int .i64 h, .int .i64 ep, .string r, .string p] 26)) #[.int .i64 0, .slice none 0 0, .slice none 0 0, .slice none 0 0] 30
    rw [World.size_alloc] at R
    have X : Ext w ((w.alloc (Obj.cells #[.int .i64 h, .int .i64 ep, .string r, .string p] 26)).alloc (Obj.cells #[.int .i64 0, .slice none 0 0, .slice none 0 0, .slice none 0 0] 30)) := ((Ext.refl w).alloc _).alloc _
    replace HST := Lib.hid (HST.out.ext X)
    generalize (w.alloc (Obj.cells #[.int .i64 h, .int .i64 ep, .string r, .string p] 26)).alloc (Obj.cells #[.int .i64 0, .slice none 0 0, .slice none 0 0, .slice none 0 0] 30) = W0 at *
    refine (spec_HeadOk _ _ _ _ _).mono ?_
    rw [HH.out]
    rintro e w1 ⟨rfl, x1⟩
    replace P := P.ext x1
    replace R := R.ext x1
    replace HST := Lib.hid (HST.out.ext x1)
    replace X := X.trans x1
    have z0 := R.2.1 0 _ rfl
    have z1 := R.2.1 1 _ rfl
    have z2 := R.2.1 2 _ rfl
    have z3 := R.2.1 3 _ rfl
    have f0 := R.2.2 0
    have f1 := R.2.2 1
    have f2 := R.2.2 2
    have f3 := R.2.2 3
    have XF : Ext w ((((w1.setCell ⟨w.heap.size + 1, 0, none⟩ (.int .i64 0)).setCell ⟨w.heap.size + 1, 1, none⟩ (.slice none 0 0)).setCell ⟨w.heap.size + 1, 2, none⟩ (.slice none 0 0)).setCell ⟨w.heap.size + 1, 3, none⟩ (.slice none 0 0)) := (((X.setCell (by dsimp only; omega) _).setCell (by dsimp only; omega) _).setCell (by dsimp only; omega) _).setCell (by dsimp only; omega) _
    have RF := ((((R.set 0 (.int .i64 0) (by simp)).set 1 (.slice none 0 0) (by simp)).set 2 (.slice none 0 0) (by simp)).set 3 (.slice none 0 0) (by simp))
    go_wp2
    generalize (((w1.setCell ⟨w.heap.size + 1, 0, none⟩ (.int .i64 0)).setCell ⟨w.heap.size + 1, 1, none⟩ (.slice none 0 0)).setCell ⟨w.heap.size + 1, 2, none⟩ (.slice none 0 0)).setCell ⟨w.heap.size + 1, 3, none⟩ (.slice none 0 0) = WF at *
    have k0 := RF.2.1 0 _ rfl
    have k1 := RF.2.1 1 _ rfl
    have k2 := RF.2.1 2 _ rfl
    have k3 := RF.2.1 3 _ rfl
    refine bodyPost_ret (v := .tuple #[.agg #[.int .i64 0, .slice none 0 0, .slice none 0 0, .slice none 0 0], .bool false]) (by simp [results, Tryz.results9, go_sem, k0, k1, k2, k3]) rfl ?_
    rw [HV.out, HK.out]
    exact ⟨_, _, _, _, _, _, rfl, sigOwn_nil _ _, XF⟩
  · have HV := Lib.hid (show stV seed pool h ep r p = sgnV seed pool (stampAt h ep) (stampH h ep r p) by rw [stV, if_pos hh])
    have HK := Lib.hid (show stK seed pool h ep r p = sgnOk seed pool (stampAt h ep) (stampH h ep r p) by rw [stK, hh]; rfl)
    have HH := Lib.hid hh
    clear hh
    rw [HV.out, HK.out]
    clear HV HK
    go_enter Tryz.func9, Tryz.ntmps9
    go_wp2_with fail
    have P : Bx ((w.alloc (Obj.cells #[.int .i64 h, .int .i64 ep, .string r, .string p] 26)).alloc (Obj.cells #[.int .i64 0, .slice none 0 0, .slice none 0 0, .slice none 0 0] 30)) w.heap.size [.int .i64 h, .int .i64 ep, .string r, .string p] := (Bx.new w _ _).ext ((Ext.refl _).alloc _)
    have R := Bx.new (w.alloc (Obj.cells #[.int .i64 h, .int .i64 ep, .string r, .string p] 26)) #[.int .i64 0, .slice none 0 0, .slice none 0 0, .slice none 0 0] 30
    rw [World.size_alloc] at R
    have X : Ext w ((w.alloc (Obj.cells #[.int .i64 h, .int .i64 ep, .string r, .string p] 26)).alloc (Obj.cells #[.int .i64 0, .slice none 0 0, .slice none 0 0, .slice none 0 0] 30)) := ((Ext.refl w).alloc _).alloc _
    replace HST := Lib.hid (HST.out.ext X)
    generalize (w.alloc (Obj.cells #[.int .i64 h, .int .i64 ep, .string r, .string p] 26)).alloc (Obj.cells #[.int .i64 0, .slice none 0 0, .slice none 0 0, .slice none 0 0] 30) = W0 at *
    refine (spec_HeadOk _ _ _ _ _).mono ?_
    rw [HH.out]
    rintro e w1 ⟨rfl, x1⟩
    replace P := P.ext x1
    replace R := R.ext x1
    replace HST := Lib.hid (HST.out.ext x1)
    replace X := X.trans x1
    have p0 := P.2.1 0 _ rfl
    have p1 := P.2.1 1 _ rfl
    have p2 := P.2.1 2 _ rfl
    have p3 := P.2.1 3 _ rfl
    go_wp2_with fail
    clear p0 p1 p2 p3
    refine wp_region_held_drew (S := (fun W => W.cell? ⟨w.heap.size, 0, none⟩ = some (.int .i64 h) ∧ W.cell? ⟨w.heap.size, 1, none⟩ = some (.int .i64 ep) ∧ W.cell? ⟨w.heap.size, 2, none⟩ = some (.string r) ∧ W.cell? ⟨w.heap.size, 3, none⟩ = some (.string p))) (by kernel_rfl) (by exact ⟨P.2.1 0 _ rfl, P.2.1 1 _ rfl, P.2.1 2 _ rfl, P.2.1 3 _ rfl⟩) (fun hHeld => ?_)
    have xd : Ext w1 w1.drew := (Ext.refl w1).drew
    replace P := P.ext xd
    replace R := R.ext xd
    replace HST := Lib.hid (HST.out.ext xd)
    replace X := X.trans xd
    generalize w1.drew = w2 at *
    have p0 := P.2.1 0 _ rfl
    have p1 := P.2.1 1 _ rfl
    have p2 := P.2.1 2 _ rfl
    have p3 := P.2.1 3 _ rfl
    (refine wpAnyH_take (i := 0) (v := ?_) rfl (by kernel_rfl) (by kernel_rfl) (by kernel_rfl) (fun _ _ _ h => h) (Or.inl ⟨by rfl, ?_⟩) (by assumption) ?_; rotate_left; focus (intro w hSw; (try dsimp only at hSw); (try simp only [zk1, zk2]); go_simp; try with_reducible rfl)); (try simp only [zk1, zk2]); (try simp only [Act.put, zk4, zk5, zk6])
    (refine wpAnyH_take (i := 1) (v := ?_) rfl (by kernel_rfl) (by kernel_rfl) (by kernel_rfl) (fun _ _ _ h => h) (Or.inl ⟨by rfl, ?_⟩) (by assumption) ?_; rotate_left; focus (intro w hSw; (try dsimp only at hSw); (try simp only [zk1, zk2, zk3]); go_simp; try with_reducible rfl)); (try simp only [zk1, zk2, zk3]); (try simp only [Act.put, zk4, zk5, zk6])
    (refine wpAnyH_take (i := 2) (v := ?_) rfl (by kernel_rfl) (by kernel_rfl) (by kernel_rfl) (fun _ _ _ h => h) (Or.inl ⟨by rfl, ?_⟩) (by assumption) ?_; rotate_left; focus (intro w hSw; (try dsimp only at hSw); (try simp only [zk1, zk2, zk3]); go_simp; try with_reducible rfl)); (try simp only [zk1, zk2, zk3]); (try simp only [Act.put, zk4, zk5, zk6])
    (refine wpAnyH_take (i := 3) (v := ?_) rfl (by kernel_rfl) (by kernel_rfl) (by kernel_rfl) (fun _ _ _ h => h) (Or.inl ⟨by rfl, ?_⟩) (by assumption) ?_; rotate_left; focus (intro w hSw; (try dsimp only at hSw); (try simp only [zk1, zk2, zk3]); go_simp; try with_reducible rfl)); (try simp only [zk1, zk2, zk3]); (try simp only [Act.put, zk4, zk5, zk6])
    (refine wpAnyH_take (i := 4) (v := ?_) rfl (by kernel_rfl) (by kernel_rfl) (by kernel_rfl) (fun _ _ _ h => h) (Or.inl ⟨by rfl, ?_⟩) (by assumption) ?_; rotate_left; focus (intro w hSw; (try dsimp only at hSw); (try simp only [zk1, zk2, zk3]); go_simp; try with_reducible rfl)); (try simp only [zk1, zk2, zk3]); (try simp only [Act.put, zk4, zk5, zk6])
    (refine wpAnyH_take (i := 5) (v := ?_) rfl (by kernel_rfl) (by kernel_rfl) (by kernel_rfl) (fun _ _ _ h => h) (Or.inl ⟨by rfl, ?_⟩) (by assumption) ?_; rotate_left; focus (intro w hSw; (try dsimp only at hSw); (try simp only [zk1, zk2, zk3]); go_simp; try with_reducible rfl)); (try simp only [zk1, zk2, zk3]); (try simp only [Act.put, zk4, zk5, zk6])
    (refine wpAnyH_take (i := 7) (v := ?_) rfl (by kernel_rfl) (by kernel_rfl) (by kernel_rfl) (fun _ _ _ h => h) (Or.inl ⟨by rfl, ?_⟩) (by assumption) ?_; rotate_left; focus (intro w hSw; (try dsimp only at hSw); (try simp only [zk1, zk2, zk3]); go_simp; try with_reducible rfl)); (try simp only [zk1, zk2, zk3]); (try simp only [Act.put, zk4, zk5, zk6])
    (refine wpAnyH_ready (rs := [6]) (by kernel_rfl) (by simp) ?_; refine AllReadyH.cons rfl (fun K hK => ?_) AllReadyH.nil; (try simp only [zk1, zk2, zk3]))
    go_simp
    go_at_call 34
    refine (spec_StampAt h ep _).mono ?_
    generalize hsa : stampAt h ep = sa at *
    have HSA := Lib.hid hsa
    clear hsa
    rintro e w' ⟨rfl, rfl⟩
    (try dsimp only)
    refine hK.out _ _ (by exact ⟨P.2.1 0 _ rfl, P.2.1 1 _ rfl, P.2.1 2 _ rfl, P.2.1 3 _ rfl⟩) (fun hHeld => ?_)
    clear hK K
    (refine wpAnyH_ready (rs := [8]) (by kernel_rfl) (by simp) ?_; refine AllReadyH.cons rfl (fun K hK => ?_) AllReadyH.nil; (try simp only [zk1, zk2, zk3]))
    go_simp
    go_at_call 35
    refine (spec_l14Stamp h ep r p _).mono ?_
    generalize htx : stampH h ep r p = tx at *
    have HTX := Lib.hid htx
    clear htx
    rintro e w3 ⟨rfl, x3⟩
    clear p0 p1 p2 p3
    replace P := P.ext x3
    replace R := R.ext x3
    replace HST := Lib.hid (HST.out.ext x3)
    replace X := X.trans x3
    (try dsimp only)
    refine hK.out _ _ (by exact ⟨P.2.1 0 _ rfl, P.2.1 1 _ rfl, P.2.1 2 _ rfl, P.2.1 3 _ rfl⟩) (fun hHeld => ?_)
    clear hK K
    (refine wpAnyH_ready (rs := [9]) (by kernel_rfl) (by simp) ?_; refine AllReadyH.cons rfl (fun K hK => ?_) AllReadyH.nil; (try simp only [zk1, zk2, zk3]))
    go_simp
    go_at_call 29
    refine (spec_SignText seed tx _ pool sa _ HST.out hs hsol).mono ?_
    generalize hS : sgnV seed pool sa tx = S at *
    generalize hok : sgnOk seed pool sa tx = ok at *
    have HS := Lib.hid hS
    have HO := Lib.hid hok
    clear hS hok
    rintro e w4 ⟨a1, c1, a2, c2, a3, c3, rfl, so, x4⟩
    have l3 : w.heap.size + 1 < w3.heap.size := R.1
    replace P := P.ext x4
    replace R := R.ext x4
    replace HST := Lib.hid (HST.out.ext x4)
    replace X := X.trans x4
    (try dsimp only)
    refine hK.out _ _ (by exact ⟨P.2.1 0 _ rfl, P.2.1 1 _ rfl, P.2.1 2 _ rfl, P.2.1 3 _ rfl⟩) (fun hHeld => ?_)
    clear hK K
    (refine wpAnyH_take (i := 10) (v := ?_) rfl (by kernel_rfl) (by kernel_rfl) (by kernel_rfl) (fun _ _ _ h => h) (Or.inl ⟨by rfl, ?_⟩) (by assumption) ?_; rotate_left; focus (intro w hSw; (try dsimp only at hSw); (try simp only [zk1, zk2, zk3]); go_simp; try with_reducible rfl)); (try simp only [zk1, zk2, zk3]); (try simp only [Act.put, zk4, zk5, zk6])
    (refine wpAnyH_take (i := 11) (v := ?_) rfl (by kernel_rfl) (by kernel_rfl) (by kernel_rfl) (fun _ _ _ h => h) (Or.inl ⟨by rfl, ?_⟩) (by assumption) ?_; rotate_left; focus (intro w hSw; (try dsimp only at hSw); (try simp only [zk1, zk2, zk3]); go_simp; try with_reducible rfl)); (try simp only [zk1, zk2, zk3]); (try simp only [Act.put, zk4, zk5, zk6])
    have z0 := R.2.1 0 _ rfl
    have z1 := R.2.1 1 _ rfl
    have z2 := R.2.1 2 _ rfl
    have z3 := R.2.1 3 _ rfl
    have f0 := R.2.2 0
    have f1 := R.2.2 1
    have f2 := R.2.2 2
    have f3 := R.2.2 3
    have XF : Ext w ((((w4.setCell ⟨w.heap.size + 1, 0, none⟩ (.int .i64 S.at_)).setCell ⟨w.heap.size + 1, 1, none⟩ (.slice a1 S.op.length c1)).setCell ⟨w.heap.size + 1, 2, none⟩ (.slice a2 S.sh.length c2)).setCell ⟨w.heap.size + 1, 3, none⟩ (.slice a3 S.si.length c3)) := (((X.setCell (by dsimp only; omega) _).setCell (by dsimp only; omega) _).setCell (by dsimp only; omega) _).setCell (by dsimp only; omega) _
    have RF := ((((R.set 0 (.int .i64 S.at_) (by simp)).set 1 (.slice a1 S.op.length c1) (by simp)).set 2 (.slice a2 S.sh.length c2) (by simp)).set 3 (.slice a3 S.si.length c3) (by simp))
    have PF := (((P.far (c := w.heap.size + 1) (by omega) 0 (.int .i64 S.at_)).far (c := w.heap.size + 1) (by omega) 1 (.slice a1 S.op.length c1)).far (c := w.heap.size + 1) (by omega) 2 (.slice a2 S.sh.length c2)).far (c := w.heap.size + 1) (by omega) 3 (.slice a3 S.si.length c3)
    have OF := so.below4 (b := w.heap.size + 1) l3 (.int .i64 S.at_) (.slice a1 S.op.length c1) (.slice a2 S.sh.length c2) (.slice a3 S.si.length c3)
    replace P := PF
    clear so PF HST
    (refine wpAnyH_ready (rs := [12]) (by kernel_rfl) (by simp) ?_; refine AllReadyH.cons rfl (fun K hK => ?_) AllReadyH.nil; (try simp only [zk1, zk2, zk3]))
    go_simp
    generalize (((w4.setCell ⟨w.heap.size + 1, 0, none⟩ (.int .i64 S.at_)).setCell ⟨w.heap.size + 1, 1, none⟩ (.slice a1 S.op.length c1)).setCell ⟨w.heap.size + 1, 2, none⟩ (.slice a2 S.sh.length c2)).setCell ⟨w.heap.size + 1, 3, none⟩ (.slice a3 S.si.length c3) = WF at *
    (try dsimp only)
    refine hK.out _ _ (by exact ⟨P.2.1 0 _ rfl, P.2.1 1 _ rfl, P.2.1 2 _ rfl, P.2.1 3 _ rfl⟩) (fun hHeld => ?_)
    clear hK K
    (refine wpAnyH_take (i := 13) (v := ?_) rfl (by kernel_rfl) (by kernel_rfl) (by kernel_rfl) (fun _ _ _ h => h) (Or.inl ⟨by rfl, ?_⟩) (by assumption) ?_; rotate_left; focus (intro w hSw; (try dsimp only at hSw); (try simp only [zk1, zk2, zk3]); go_simp; try with_reducible rfl)); (try simp only [zk1, zk2, zk3]); (try simp only [Act.put, zk4, zk5, zk6])
    refine wpAnyH_done (by kernel_rfl) ?_ _
    have k0 := RF.2.1 0 _ rfl
    have k1 := RF.2.1 1 _ rfl
    have k2 := RF.2.1 2 _ rfl
    have k3 := RF.2.1 3 _ rfl
    clear z0 z1 z2 z3 f0 f1 f2 f3
    go_wp2
    refine bodyPost_ret (v := .tuple #[.agg #[.int .i64 S.at_, .slice a1 S.op.length c1, .slice a2 S.sh.length c2, .slice a3 S.si.length c3], .bool ok]) (by simp [results, Tryz.results9, go_sem, k0, k1, k2, k3]) rfl ?_
    rw [HSA.out, HTX.out, HS.out, HO.out]
    exact ⟨a1, c1, a2, c2, a3, c3, rfl, OF.mono (Nat.le_trans (Nat.le_succ _) (Nat.le_of_lt l3)), XF⟩
set_option maxRecDepth 100000 in
set_option maxHeartbeats 3200000 in
theorem impl_StampHead (seed : ByteArray) (v : Value) (pool : List ByteArray) (h ep : Int) (r p : ByteArray) (w : World) (hst : Strs w v pool) (hs : ∀ s ∈ pool, s.size ≤ maxLen) (hsol : Solid v) (hT : Tabs w) :
    Calls Tryz.prog 8 #[.string seed, v, .agg #[.int .i64 h, .int .i64 ep, .string r, .string p]] w fun e w' => ∃ a1 c1 a2 c2 a3 c3, e = .returned (.tuple #[.agg #[.int .i64 (stV seed pool h ep r p).at_, .slice a1 (stV seed pool h ep r p).op.length c1, .slice a2 (stV seed pool h ep r p).sh.length c2, .slice a3 (stV seed pool h ep r p).si.length c3], .bool (stK seed pool h ep r p)]) ∧ SigOwn w' w.heap.size (.slice a1 (stV seed pool h ep r p).op.length c1) (.slice a2 (stV seed pool h ep r p).sh.length c2) (.slice a3 (stV seed pool h ep r p).si.length c3) (stV seed pool h ep r p) ∧ Ext w w' := by
  have HT := Lib.hid hT
  clear hT
  obtain ⟨pa, pc, rfl⟩ := hst.form
  have HST := Lib.hid hst
  clear hst
  cases hh : headOk h ep r p
  · have HV := Lib.hid (show stV seed pool h ep r p = ⟨0, [], [], []⟩ by rw [stV, if_neg (by rw [hh]; decide)])
    have HK := Lib.hid (show stK seed pool h ep r p = false by rw [stK, hh]; rfl)
    have HH := Lib.hid hh
    clear hh
    go_enter Tryz.func8, Tryz.ntmps8
    go_wp2_with fail
    have P : Bx ((w.alloc (Obj.cells #[.int .i64 h, .int .i64 ep, .string r, .string p] 26)).alloc (Obj.cells #[.int .i64 0, .slice none 0 0, .slice none 0 0, .slice none 0 0] 30)) w.heap.size [.int .i64 h, .int .i64 ep, .string r, .string p] := (Bx.new w _ _).ext ((Ext.refl _).alloc _)
    have R := Bx.new (w.alloc (Obj.cells #[.int .i64 h, .int .i64 ep, .string r, .string p] 26)) #[.int .i64 0, .slice none 0 0, .slice none 0 0, .slice none 0 0] 30
    rw [World.size_alloc] at R
    have X : Ext w ((w.alloc (Obj.cells #[.int .i64 h, .int .i64 ep, .string r, .string p] 26)).alloc (Obj.cells #[.int .i64 0, .slice none 0 0, .slice none 0 0, .slice none 0 0] 30)) := ((Ext.refl w).alloc _).alloc _
    replace HST := Lib.hid (HST.out.ext X)
    generalize (w.alloc (Obj.cells #[.int .i64 h, .int .i64 ep, .string r, .string p] 26)).alloc (Obj.cells #[.int .i64 0, .slice none 0 0, .slice none 0 0, .slice none 0 0] 30) = W0 at *
    refine (impl_HeadOk _ _ _ _ _).mono ?_
    rw [HH.out]
    rintro e w1 ⟨rfl, x1⟩
    replace P := P.ext x1
    replace R := R.ext x1
    replace HST := Lib.hid (HST.out.ext x1)
    replace X := X.trans x1
    have z0 := R.2.1 0 _ rfl
    have z1 := R.2.1 1 _ rfl
    have z2 := R.2.1 2 _ rfl
    have z3 := R.2.1 3 _ rfl
    have f0 := R.2.2 0
    have f1 := R.2.2 1
    have f2 := R.2.2 2
    have f3 := R.2.2 3
    have XF : Ext w ((((w1.setCell ⟨w.heap.size + 1, 0, none⟩ (.int .i64 0)).setCell ⟨w.heap.size + 1, 1, none⟩ (.slice none 0 0)).setCell ⟨w.heap.size + 1, 2, none⟩ (.slice none 0 0)).setCell ⟨w.heap.size + 1, 3, none⟩ (.slice none 0 0)) := (((X.setCell (by dsimp only; omega) _).setCell (by dsimp only; omega) _).setCell (by dsimp only; omega) _).setCell (by dsimp only; omega) _
    have RF := ((((R.set 0 (.int .i64 0) (by simp)).set 1 (.slice none 0 0) (by simp)).set 2 (.slice none 0 0) (by simp)).set 3 (.slice none 0 0) (by simp))
    go_wp2
    generalize (((w1.setCell ⟨w.heap.size + 1, 0, none⟩ (.int .i64 0)).setCell ⟨w.heap.size + 1, 1, none⟩ (.slice none 0 0)).setCell ⟨w.heap.size + 1, 2, none⟩ (.slice none 0 0)).setCell ⟨w.heap.size + 1, 3, none⟩ (.slice none 0 0) = WF at *
    have k0 := RF.2.1 0 _ rfl
    have k1 := RF.2.1 1 _ rfl
    have k2 := RF.2.1 2 _ rfl
    have k3 := RF.2.1 3 _ rfl
    refine bodyPost_ret (v := .tuple #[.agg #[.int .i64 0, .slice none 0 0, .slice none 0 0, .slice none 0 0], .bool false]) (by simp [results, Tryz.results8, go_sem, k0, k1, k2, k3]) rfl ?_
    rw [HV.out, HK.out]
    exact ⟨_, _, _, _, _, _, rfl, sigOwn_nil _ _, XF⟩
  · have HV := Lib.hid (show stV seed pool h ep r p = sgnV seed pool (stampAt h ep) (stampH h ep r p) by rw [stV, if_pos hh])
    have HK := Lib.hid (show stK seed pool h ep r p = sgnOk seed pool (stampAt h ep) (stampH h ep r p) by rw [stK, hh]; rfl)
    have HH := Lib.hid hh
    clear hh
    rw [HV.out, HK.out]
    clear HV HK
    go_enter Tryz.func8, Tryz.ntmps8
    go_wp2_with fail
    have P : Bx ((w.alloc (Obj.cells #[.int .i64 h, .int .i64 ep, .string r, .string p] 26)).alloc (Obj.cells #[.int .i64 0, .slice none 0 0, .slice none 0 0, .slice none 0 0] 30)) w.heap.size [.int .i64 h, .int .i64 ep, .string r, .string p] := (Bx.new w _ _).ext ((Ext.refl _).alloc _)
    have R := Bx.new (w.alloc (Obj.cells #[.int .i64 h, .int .i64 ep, .string r, .string p] 26)) #[.int .i64 0, .slice none 0 0, .slice none 0 0, .slice none 0 0] 30
    rw [World.size_alloc] at R
    have X : Ext w ((w.alloc (Obj.cells #[.int .i64 h, .int .i64 ep, .string r, .string p] 26)).alloc (Obj.cells #[.int .i64 0, .slice none 0 0, .slice none 0 0, .slice none 0 0] 30)) := ((Ext.refl w).alloc _).alloc _
    replace HST := Lib.hid (HST.out.ext X)
    generalize (w.alloc (Obj.cells #[.int .i64 h, .int .i64 ep, .string r, .string p] 26)).alloc (Obj.cells #[.int .i64 0, .slice none 0 0, .slice none 0 0, .slice none 0 0] 30) = W0 at *
    refine (impl_HeadOk _ _ _ _ _).mono ?_
    rw [HH.out]
    rintro e w1 ⟨rfl, x1⟩
    replace P := P.ext x1
    replace R := R.ext x1
    replace HST := Lib.hid (HST.out.ext x1)
    replace X := X.trans x1
    have p0 := P.2.1 0 _ rfl
    have p1 := P.2.1 1 _ rfl
    have p2 := P.2.1 2 _ rfl
    have p3 := P.2.1 3 _ rfl
    go_wp2_with fail
    clear p0 p1 p2 p3
    refine wp_region_held_drew (S := (fun W => W.cell? ⟨w.heap.size, 0, none⟩ = some (.int .i64 h) ∧ W.cell? ⟨w.heap.size, 1, none⟩ = some (.int .i64 ep) ∧ W.cell? ⟨w.heap.size, 2, none⟩ = some (.string r) ∧ W.cell? ⟨w.heap.size, 3, none⟩ = some (.string p))) (by kernel_rfl) (by exact ⟨P.2.1 0 _ rfl, P.2.1 1 _ rfl, P.2.1 2 _ rfl, P.2.1 3 _ rfl⟩) (fun hHeld => ?_)
    have xd : Ext w1 w1.drew := (Ext.refl w1).drew
    replace P := P.ext xd
    replace R := R.ext xd
    replace HST := Lib.hid (HST.out.ext xd)
    replace X := X.trans xd
    generalize w1.drew = w2 at *
    have p0 := P.2.1 0 _ rfl
    have p1 := P.2.1 1 _ rfl
    have p2 := P.2.1 2 _ rfl
    have p3 := P.2.1 3 _ rfl
    (refine wpAnyH_take (i := 0) (v := ?_) rfl (by kernel_rfl) (by kernel_rfl) (by kernel_rfl) (fun _ _ _ h => h) (Or.inl ⟨by rfl, ?_⟩) (by assumption) ?_; rotate_left; focus (intro w hSw; (try dsimp only at hSw); (try simp only [zk1, zk2]); go_simp; try with_reducible rfl)); (try simp only [zk1, zk2]); (try simp only [Act.put, zk4, zk5, zk6])
    (refine wpAnyH_take (i := 1) (v := ?_) rfl (by kernel_rfl) (by kernel_rfl) (by kernel_rfl) (fun _ _ _ h => h) (Or.inl ⟨by rfl, ?_⟩) (by assumption) ?_; rotate_left; focus (intro w hSw; (try dsimp only at hSw); (try simp only [zk1, zk2, zk3]); go_simp; try with_reducible rfl)); (try simp only [zk1, zk2, zk3]); (try simp only [Act.put, zk4, zk5, zk6])
    (refine wpAnyH_take (i := 2) (v := ?_) rfl (by kernel_rfl) (by kernel_rfl) (by kernel_rfl) (fun _ _ _ h => h) (Or.inl ⟨by rfl, ?_⟩) (by assumption) ?_; rotate_left; focus (intro w hSw; (try dsimp only at hSw); (try simp only [zk1, zk2, zk3]); go_simp; try with_reducible rfl)); (try simp only [zk1, zk2, zk3]); (try simp only [Act.put, zk4, zk5, zk6])
    (refine wpAnyH_take (i := 3) (v := ?_) rfl (by kernel_rfl) (by kernel_rfl) (by kernel_rfl) (fun _ _ _ h => h) (Or.inl ⟨by rfl, ?_⟩) (by assumption) ?_; rotate_left; focus (intro w hSw; (try dsimp only at hSw); (try simp only [zk1, zk2, zk3]); go_simp; try with_reducible rfl)); (try simp only [zk1, zk2, zk3]); (try simp only [Act.put, zk4, zk5, zk6])
    (refine wpAnyH_take (i := 4) (v := ?_) rfl (by kernel_rfl) (by kernel_rfl) (by kernel_rfl) (fun _ _ _ h => h) (Or.inl ⟨by rfl, ?_⟩) (by assumption) ?_; rotate_left; focus (intro w hSw; (try dsimp only at hSw); (try simp only [zk1, zk2, zk3]); go_simp; try with_reducible rfl)); (try simp only [zk1, zk2, zk3]); (try simp only [Act.put, zk4, zk5, zk6])
    (refine wpAnyH_take (i := 5) (v := ?_) rfl (by kernel_rfl) (by kernel_rfl) (by kernel_rfl) (fun _ _ _ h => h) (Or.inl ⟨by rfl, ?_⟩) (by assumption) ?_; rotate_left; focus (intro w hSw; (try dsimp only at hSw); (try simp only [zk1, zk2, zk3]); go_simp; try with_reducible rfl)); (try simp only [zk1, zk2, zk3]); (try simp only [Act.put, zk4, zk5, zk6])
    (refine wpAnyH_take (i := 7) (v := ?_) rfl (by kernel_rfl) (by kernel_rfl) (by kernel_rfl) (fun _ _ _ h => h) (Or.inl ⟨by rfl, ?_⟩) (by assumption) ?_; rotate_left; focus (intro w hSw; (try dsimp only at hSw); (try simp only [zk1, zk2, zk3]); go_simp; try with_reducible rfl)); (try simp only [zk1, zk2, zk3]); (try simp only [Act.put, zk4, zk5, zk6])
    (refine wpAnyH_ready (rs := [6]) (by kernel_rfl) (by simp) ?_; refine AllReadyH.cons rfl (fun K hK => ?_) AllReadyH.nil; (try simp only [zk1, zk2, zk3]))
    go_simp
    go_at_call 32
    refine (impl_StampAt h ep _).mono ?_
    generalize hsa : stampAt h ep = sa at *
    have HSA := Lib.hid hsa
    clear hsa
    rintro e w' ⟨rfl, rfl⟩
    (try dsimp only)
    refine hK.out _ _ (by exact ⟨P.2.1 0 _ rfl, P.2.1 1 _ rfl, P.2.1 2 _ rfl, P.2.1 3 _ rfl⟩) (fun hHeld => ?_)
    clear hK K
    (refine wpAnyH_ready (rs := [8]) (by kernel_rfl) (by simp) ?_; refine AllReadyH.cons rfl (fun K hK => ?_) AllReadyH.nil; (try simp only [zk1, zk2, zk3]))
    go_simp
    go_at_call 33
    refine (impl_stampText h ep r p _ (HT.out.ext X)).mono ?_
    generalize htx : stampH h ep r p = tx at *
    have HTX := Lib.hid htx
    clear htx
    rintro e w3 ⟨rfl, x3⟩
    clear p0 p1 p2 p3
    replace P := P.ext x3
    replace R := R.ext x3
    replace HST := Lib.hid (HST.out.ext x3)
    replace X := X.trans x3
    (try dsimp only)
    refine hK.out _ _ (by exact ⟨P.2.1 0 _ rfl, P.2.1 1 _ rfl, P.2.1 2 _ rfl, P.2.1 3 _ rfl⟩) (fun hHeld => ?_)
    clear hK K
    (refine wpAnyH_ready (rs := [9]) (by kernel_rfl) (by simp) ?_; refine AllReadyH.cons rfl (fun K hK => ?_) AllReadyH.nil; (try simp only [zk1, zk2, zk3]))
    go_simp
    go_at_call 26
    refine (impl_SignText seed tx _ pool sa _ HST.out hs hsol (HT.out.ext X)).mono ?_
    generalize hS : sgnV seed pool sa tx = S at *
    generalize hok : sgnOk seed pool sa tx = ok at *
    have HS := Lib.hid hS
    have HO := Lib.hid hok
    clear hS hok
    rintro e w4 ⟨a1, c1, a2, c2, a3, c3, rfl, so, x4⟩
    have l3 : w.heap.size + 1 < w3.heap.size := R.1
    replace P := P.ext x4
    replace R := R.ext x4
    replace HST := Lib.hid (HST.out.ext x4)
    replace X := X.trans x4
    (try dsimp only)
    refine hK.out _ _ (by exact ⟨P.2.1 0 _ rfl, P.2.1 1 _ rfl, P.2.1 2 _ rfl, P.2.1 3 _ rfl⟩) (fun hHeld => ?_)
    clear hK K
    (refine wpAnyH_take (i := 10) (v := ?_) rfl (by kernel_rfl) (by kernel_rfl) (by kernel_rfl) (fun _ _ _ h => h) (Or.inl ⟨by rfl, ?_⟩) (by assumption) ?_; rotate_left; focus (intro w hSw; (try dsimp only at hSw); (try simp only [zk1, zk2, zk3]); go_simp; try with_reducible rfl)); (try simp only [zk1, zk2, zk3]); (try simp only [Act.put, zk4, zk5, zk6])
    (refine wpAnyH_take (i := 11) (v := ?_) rfl (by kernel_rfl) (by kernel_rfl) (by kernel_rfl) (fun _ _ _ h => h) (Or.inl ⟨by rfl, ?_⟩) (by assumption) ?_; rotate_left; focus (intro w hSw; (try dsimp only at hSw); (try simp only [zk1, zk2, zk3]); go_simp; try with_reducible rfl)); (try simp only [zk1, zk2, zk3]); (try simp only [Act.put, zk4, zk5, zk6])
    have z0 := R.2.1 0 _ rfl
    have z1 := R.2.1 1 _ rfl
    have z2 := R.2.1 2 _ rfl
    have z3 := R.2.1 3 _ rfl
    have f0 := R.2.2 0
    have f1 := R.2.2 1
    have f2 := R.2.2 2
    have f3 := R.2.2 3
    have XF : Ext w ((((w4.setCell ⟨w.heap.size + 1, 0, none⟩ (.int .i64 S.at_)).setCell ⟨w.heap.size + 1, 1, none⟩ (.slice a1 S.op.length c1)).setCell ⟨w.heap.size + 1, 2, none⟩ (.slice a2 S.sh.length c2)).setCell ⟨w.heap.size + 1, 3, none⟩ (.slice a3 S.si.length c3)) := (((X.setCell (by dsimp only; omega) _).setCell (by dsimp only; omega) _).setCell (by dsimp only; omega) _).setCell (by dsimp only; omega) _
    have RF := ((((R.set 0 (.int .i64 S.at_) (by simp)).set 1 (.slice a1 S.op.length c1) (by simp)).set 2 (.slice a2 S.sh.length c2) (by simp)).set 3 (.slice a3 S.si.length c3) (by simp))
    have PF := (((P.far (c := w.heap.size + 1) (by omega) 0 (.int .i64 S.at_)).far (c := w.heap.size + 1) (by omega) 1 (.slice a1 S.op.length c1)).far (c := w.heap.size + 1) (by omega) 2 (.slice a2 S.sh.length c2)).far (c := w.heap.size + 1) (by omega) 3 (.slice a3 S.si.length c3)
    have OF := so.below4 (b := w.heap.size + 1) l3 (.int .i64 S.at_) (.slice a1 S.op.length c1) (.slice a2 S.sh.length c2) (.slice a3 S.si.length c3)
    replace P := PF
    clear so PF HST
    (refine wpAnyH_ready (rs := [12]) (by kernel_rfl) (by simp) ?_; refine AllReadyH.cons rfl (fun K hK => ?_) AllReadyH.nil; (try simp only [zk1, zk2, zk3]))
    go_simp
    generalize (((w4.setCell ⟨w.heap.size + 1, 0, none⟩ (.int .i64 S.at_)).setCell ⟨w.heap.size + 1, 1, none⟩ (.slice a1 S.op.length c1)).setCell ⟨w.heap.size + 1, 2, none⟩ (.slice a2 S.sh.length c2)).setCell ⟨w.heap.size + 1, 3, none⟩ (.slice a3 S.si.length c3) = WF at *
    (try dsimp only)
    refine hK.out _ _ (by exact ⟨P.2.1 0 _ rfl, P.2.1 1 _ rfl, P.2.1 2 _ rfl, P.2.1 3 _ rfl⟩) (fun hHeld => ?_)
    clear hK K
    (refine wpAnyH_take (i := 13) (v := ?_) rfl (by kernel_rfl) (by kernel_rfl) (by kernel_rfl) (fun _ _ _ h => h) (Or.inl ⟨by rfl, ?_⟩) (by assumption) ?_; rotate_left; focus (intro w hSw; (try dsimp only at hSw); (try simp only [zk1, zk2, zk3]); go_simp; try with_reducible rfl)); (try simp only [zk1, zk2, zk3]); (try simp only [Act.put, zk4, zk5, zk6])
    refine wpAnyH_done (by kernel_rfl) ?_ _
    have k0 := RF.2.1 0 _ rfl
    have k1 := RF.2.1 1 _ rfl
    have k2 := RF.2.1 2 _ rfl
    have k3 := RF.2.1 3 _ rfl
    clear z0 z1 z2 z3 f0 f1 f2 f3
    go_wp2
    refine bodyPost_ret (v := .tuple #[.agg #[.int .i64 S.at_, .slice a1 S.op.length c1, .slice a2 S.sh.length c2, .slice a3 S.si.length c3], .bool ok]) (by simp [results, Tryz.results8, go_sem, k0, k1, k2, k3]) rfl ?_
    rw [HSA.out, HTX.out, HS.out, HO.out]
    exact ⟨a1, c1, a2, c2, a3, c3, rfl, OF.mono (Nat.le_trans (Nat.le_succ _) (Nat.le_of_lt l3)), XF⟩
end Go.Proofs.YtkphipgfcbckcaaGreatDoor
