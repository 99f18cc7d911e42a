/- The hash of a place: the program. -/
import Derived.Test.YtagkcgbggeajkaaDoorGrove
import Derived.Test.YtagkcgbggeajkaaDoorFold
namespace Go.Proofs.YtagkcgbggeajkaaDoor
open Go.RowKit

theorem impl_emptyHashL (n : Nat) (l wd : Int) (w : World) (hl : l = 8 - (n : Int)) (hn : n ≤ 8) (hT : Tabs w) :
    Calls Tryd.prog 99 #[.int .i64 l, .int .i64 wd] w fun e w' => e = .returned (.string (emptyAt wd n)) ∧ Ext w w' := by
  subst hl
  exact impl_emptyHash n wd w hn hT
theorem leaves_fit {xs : List Leaf} (h : leavesOk xs = true) : LeafFit xs := fun l hl => by
  obtain ⟨h1, h2⟩ := leavesOk_small h
  have h3 := h2 l hl
  unfold maxLen
  omega

set_option maxRecDepth 100000 in
set_option maxHeartbeats 3200000 in
theorem impl_node (xs : List Leaf) (wd : Int) (hok : leavesOk xs = true) : ∀ (n : Nat) (l p : Int) (v u : Value) (w : World) (_ : l = 8 - (n : Int)) (_ : n ≤ 8) (_ : 0 ≤ p ∧ p < 2 ^ (8 - n)) (_ : Lvs w v xs) (_ : Row w 1 u xs.length (idxV xs xs.length)) (_ : Tabs w),
    Calls Tryd.prog 66 #[.agg #[v, u, .int .i64 wd], .int .i64 l, .int .i64 p] w fun e w' => e = .returned (.string (nodeT xs wd n p)) ∧ Ext w w' := by
  intro n
  induction n using Nat.strongRecOn with
  | _ n ih =>
  intro l p v u w hl hn8 hp h hu hT
  obtain ⟨i0, hi, hz0, hz1, hz2⟩ := info_parts infoLeaf
  obtain ⟨-, a1, c1, hv, hc1, hm1, g1⟩ := id h
  subst hv
  obtain ⟨-, a2, c2, hv, hc2, hm2, g2⟩ := id hu
  subst hv
  unfold maxLen at hm1 hm2
  obtain ⟨hp0, hp1⟩ := hp
  have hp2 := place_small hp1
  have hx24 := (leavesOk_small hok).1
  have HT := Lib.hid hT
  have HL := Lib.hid hl
  have HK := Lib.hid hok
  have IH := Lib.hid ih
  have HP := Lib.hid hp1
  have hsub : IntKind.i64.wrap (8 - l) = (n : Int) := by rw [IntWalk.i64_in _ (by omega)]; omega
  have hl0 : 0 ≤ l ∧ l ≤ 8 := by omega
  obtain ⟨hl0, hl8⟩ := hl0
  clear hT hl hok ih hp1
  go_enter Tryd.func66, Tryd.ntmps66
  go_wp2
  have q0 : (w.alloc (Obj.cells #[.slice a1 xs.length c1, .slice a2 xs.length c2, .int .i64 wd] 87)).cell? ⟨w.heap.size, 0, none⟩ = some (.slice a1 xs.length c1) := by simp [go_sem]
  have q1 : (w.alloc (Obj.cells #[.slice a1 xs.length c1, .slice a2 xs.length c2, .int .i64 wd] 87)).cell? ⟨w.heap.size, 1, none⟩ = some (.slice a2 xs.length c2) := by simp [go_sem]
  have q2 : (w.alloc (Obj.cells #[.slice a1 xs.length c1, .slice a2 xs.length c2, .int .i64 wd] 87)).cell? ⟨w.heap.size, 2, none⟩ = some (.int .i64 wd) := by simp [go_sem]
  have x0 : Ext w (w.alloc (Obj.cells #[.slice a1 xs.length c1, .slice a2 xs.length c2, .int .i64 wd] 87)) := (Ext.refl w).alloc _
  have l0 : w.heap.size + 1 = (w.alloc (Obj.cells #[.slice a1 xs.length c1, .slice a2 xs.length c2, .int .i64 wd] 87)).heap.size := by rw [World.size_alloc]
  generalize w.alloc (Obj.cells #[.slice a1 xs.length c1, .slice a2 xs.length c2, .int .i64 wd] 87) = W0 at *
  go_loopw [7, 13] (fun v i wr => ∃ j : Nat, j ≤ xs.length ∧ i = .int .i64 j ∧ wr.ownsRow W0.heap.size 82 2 v (pickOn (belP n p) xs j).length ((pickOn (belP n p) xs j).flatMap Leaf.cells) ∧ Ext W0 wr) (fun _ i _ => xs.length - (intOf i).toNat)
  case atStart => exact ⟨0, Nat.zero_le _, rfl, World.ownsRow_nil _ _ _ _, (by repeat (first | (with_reducible first | exact Ext.refl _ | assumption | apply Ext.alloc | apply Ext.drew | apply Ext.drewN | refine Ext.setCell ?_ ?_ _ | refine Ext.trans ?_ (by assumption)) | (show _ ≤ _; first | omega | (dsimp only; omega) | (simp; done) | (simp; omega))))⟩
  case round =>
    obtain ⟨j, hj, rfl, hown, hx⟩ := hrel
    obtain ⟨a, c, rfl⟩ := own_any hown
    have hsz := hx.size
    have xw : Ext w wr := x0.trans hx
    have lW : w.heap.size < W0.heap.size := by omega
    have r0 := (hx.cell _ _ lW).trans q0
    have r1 := (hx.cell _ _ lW).trans q1
    have r2 := (hx.cell _ _ lW).trans q2
    have lr : w.heap.size < wr.heap.size := by omega
    by_cases hlt : j < xs.length
    · rcases g1 with g1 | ⟨b1, o1, rfl, hb1, g1⟩
      · omega
      rcases g2 with g2 | ⟨b2, o2, rfl, hb2, g2⟩
      · omega
      have e1 : wr.cell? ⟨b1, o1 + j * 2, none⟩ = some (.string xs[j].name) := (xw.cell b1 _ hb1).trans (g1 _ _ (leaf_c0 xs j hlt))
      have e2 : wr.cell? ⟨b1, o1 + j * 2 + 1, none⟩ = some (.string xs[j].value) := (xw.cell b1 _ hb1).trans (g1 _ _ (leaf_c1 xs j hlt))
      have e3 : wr.cell? ⟨b2, o2 + j, none⟩ = some (.int .i64 (idxT xs[j].name)) := (xw.cell b2 _ hb2).trans (g2 _ _ (idxV_at xs j hlt))
      have lb2 : b2 < wr.heap.size := Nat.lt_of_lt_of_le hb2 xw.size
      have hdl := pickOn_length (belP n p) xs j
      have hi0 : (0 : Int) ≤ (j : Int) := by omega
      have hi1 : (j : Int) < (xs.length : Int) := by omega
      obtain ⟨k1, k2⟩ := idxT_bd xs[j].name
      clear g1 g2
      by_cases hq : (belP n p) xs[j] = true
      · have HU := Lib.hid (pickOn_keep hlt hq)
        have hqb : (idxT xs[j].name / 2 ^ n == p) = true := hq
        have hqd : idxT xs[j].name / 2 ^ n = p := by simpa using hqb
        have HO := Lib.hid hown
        clear hq hown
        generalize xs[j] = z at *
        have own2 := (HO.out.alloc (Obj.cells #[Value.string z.name, Value.string z.value] 82)).alloc (Obj.cells #[Value.string z.name, Value.string z.value] 82)
        go_wp2_with (at_builtin; refine wpList_append_own _ rfl (.tmp 28) (.tmp 30) 38 rfl W0.heap.size 82 i0 _ 2 32 Tryd.underlying38 hi hz0 hz1 hz2 rfl (by decide) _ _ _ rfl own2 ⟨wr.heap.size + 1, 0, none⟩ 1 1 [.string z.name, .string z.value] rfl rfl ?c1 ?c2 ?c3 ?c4 ?c5 ?_)
        case c1 =>
          have hh := heap_alloc_new (wr.alloc (Obj.cells #[Value.string z.name, Value.string z.value] 82)) (Obj.cells #[Value.string z.name, Value.string z.value] 82)
          rw [World.size_alloc] at hh
          exact World.news_of_block hh
        case c2 => intro u hu; simp at hu; rcases hu with rfl | rfl <;> rfl
        case c3 => unfold maxLen; omega
        case c4 => omega
        case c5 => simp; omega
        intro v' w3 own3 hgrow _
        have hx3 : Ext W0 w3 := own_ext_of ((hx.alloc _).alloc _) own2 hgrow (Nat.le_refl _)
        obtain ⟨a', c', rfl⟩ := own_any own3
        have HO3 := Lib.hid own3
        clear own3 hgrow own2
        go_wp2
        go_roundw
        case rel => exact ⟨j + 1, by omega, by go_num, by rw [HU.out, List.length_append, List.flatMap_append]; simpa [Leaf.cells] using HO3.out, hx3⟩
        case measure => simp [intOf]; omega
      · have hq' : (belP n p) xs[j] = false := by simpa using hq
        have HU := Lib.hid (pickOn_skip hlt hq')
        have hqb : (idxT xs[j].name / 2 ^ n == p) = false := hq'
        have hqd : ¬ idxT xs[j].name / 2 ^ n = p := by simpa using hqb
        have HO := Lib.hid hown
        clear hq hq' hown
        generalize xs[j] = z at *
        go_wp2
        go_roundw
        case rel => exact ⟨j + 1, by omega, by go_num, by rw [HU.out]; exact own_alloc HO.out _, (by repeat (first | (with_reducible first | exact Ext.refl _ | assumption | apply Ext.alloc | apply Ext.drew | apply Ext.drewN | refine Ext.setCell ?_ ?_ _ | refine Ext.trans ?_ (by assumption)) | (show _ ≤ _; first | omega | (dsimp only; omega) | (simp; done) | (simp; omega))))⟩
        case measure => simp [intOf]; omega
    · obtain rfl : j = xs.length := by omega
      have hB : pickOn (belP n p) xs xs.length = belL xs n p := rfl
      rw [hB] at hown ⊢
      have hbl : OwnLvs wr W0.heap.size (.slice a (belL xs n p).length c) (belL xs n p) := hown
      have hfitb := leaves_fit (belL_ok HK.out n p)
      have HBO := Lib.hid (belL_ok HK.out n p)
      have hlB := belL_len xs n p
      have sB := hbl.lvs
      have hbz : (bucketT (belL xs n p)).size ≤ 1073741824 := tagTx_size _ _
      clear g1 g2 hown hbl hB
      by_cases hn0 : n = 0
      · have R := Lib.hid (show nodeT xs wd n p = cutT (bucketT (belL xs n p)) wd by subst hn0; rfl)
        obtain rfl : l = 8 := by have := HL.out; omega
        clear hn0 hsub
        generalize belL xs n p = B at *
        go_wp2_with fail
        go_region_held3 (fun W => W.cell? ⟨w.heap.size, 2, none⟩ = some (.int .i64 wd)) (first | exact r2 | exact (ya.cell _ _ lr).trans r2 | exact (yb.cell _ _ lr).trans r2) (first | (go_at_call 86; refine (impl_bucketText _ B _ (sB.ext (by repeat (first | (with_reducible first | exact Ext.refl _ | assumption | apply Ext.alloc | apply Ext.drew | apply Ext.drewN | refine Ext.setCell ?_ ?_ _ | refine Ext.trans ?_ (by assumption)) | (show _ ≤ _; first | omega | (dsimp only; omega) | (simp; done) | (simp; omega))))) HBO.out).mono ?_; rintro e wa ⟨rfl, xa⟩; have ya : Ext wr wa := (by repeat (first | (with_reducible first | exact Ext.refl _ | assumption | apply Ext.alloc | apply Ext.drew | apply Ext.drewN | refine Ext.setCell ?_ ?_ _ | refine Ext.trans ?_ (by assumption)) | (show _ ≤ _; first | omega | (dsimp only; omega) | (simp; done) | (simp; omega))))) | (go_at_call 88; refine (impl_CutDigest (bucketT B) wd _ hbz (by exact HT.out.ext (by repeat (first | (with_reducible first | exact Ext.refl _ | assumption | apply Ext.alloc | apply Ext.drew | apply Ext.drewN | refine Ext.setCell ?_ ?_ _ | refine Ext.trans ?_ (by assumption)) | (show _ ≤ _; first | omega | (dsimp only; omega) | (simp; done) | (simp; omega)))))).mono ?_; rintro e wb ⟨rfl, xb⟩; have yb : Ext wr wb := (by repeat (first | (with_reducible first | exact Ext.refl _ | assumption | apply Ext.alloc | apply Ext.drew | apply Ext.drewN | refine Ext.setCell ?_ ?_ _ | refine Ext.trans ?_ (by assumption)) | (show _ ≤ _; first | omega | (dsimp only; omega) | (simp; done) | (simp; omega))))))
        all_goals
          go_wp2
          go_ret
          exact ⟨ret_str R.out.symm, (by repeat (first | (with_reducible first | exact Ext.refl _ | assumption | apply Ext.alloc | apply Ext.drew | apply Ext.drewN | refine Ext.setCell ?_ ?_ _ | refine Ext.trans ?_ (by assumption)) | (show _ ≤ _; first | omega | (dsimp only; omega) | (simp; done) | (simp; omega))))⟩
      · obtain ⟨m, rfl⟩ : ∃ m, n = m + 1 := ⟨n - 1, by omega⟩
        have hne : ¬ l = 8 := by have := HL.out; omega
        have hneb : (l == 8) = false := by simpa using hne
        have hned : decide (l = 8) = false := decide_eq_false hne
        by_cases hz : (belL xs (m + 1) p).length = 0
        · have R := Lib.hid (node_none wd hz)
          have hi0 : (((belL xs (m + 1) p).length : Int) == 0) = true := by rw [hz]; rfl
          have hd0 : decide (((belL xs (m + 1) p).length : Int) = 0) = true := by rw [hz]; rfl
          clear hz
          generalize belL xs (m + 1) p = B at *
          go_wp2_with fail
          refine (impl_emptyHashL (m + 1) l wd _ HL.out hn8 (by exact HT.out.ext (by repeat (first | (with_reducible first | exact Ext.refl _ | assumption | apply Ext.alloc | apply Ext.drew | apply Ext.drewN | refine Ext.setCell ?_ ?_ _ | refine Ext.trans ?_ (by assumption)) | (show _ ≤ _; first | omega | (dsimp only; omega) | (simp; done) | (simp; omega)))))).mono ?_
          rintro e wa ⟨rfl, xa⟩
          go_wp2
          go_ret
          exact ⟨ret_str R.out.symm, (by repeat (first | (with_reducible first | exact Ext.refl _ | assumption | apply Ext.alloc | apply Ext.drew | apply Ext.drewN | refine Ext.setCell ?_ ?_ _ | refine Ext.trans ?_ (by assumption)) | (show _ ≤ _; first | omega | (dsimp only; omega) | (simp; done) | (simp; omega))))⟩
        · have R := Lib.hid (node_some wd hz)
          have hi0 : (((belL xs (m + 1) p).length : Int) == 0) = false := by rw [beq_eq_false_iff_ne]; omega
          have hd0 : decide (((belL xs (m + 1) p).length : Int) = 0) = false := decide_eq_false (by omega)
          obtain ⟨s1, s2⟩ := place_step hn8 hp0 HP.out
          have A1 := Lib.hid (show 0 ≤ 2 * p ∧ 2 * p < 2 ^ (8 - m) by omega)
          have A2 := Lib.hid (show 0 ≤ 2 * p + 1 ∧ 2 * p + 1 < 2 ^ (8 - m) by omega)
          have A3 := Lib.hid (show l + 1 = 8 - (m : Int) by have := HL.out; omega)
          have hwl : IntKind.i64.wrap (l + 1) = l + 1 := IntWalk.i64_in _ (by omega)
          have hw2 : IntKind.i64.wrap (2 * p) = 2 * p := IntWalk.i64_in _ (by omega)
          have hw3 : IntKind.i64.wrap (2 * p + 1) = 2 * p + 1 := IntWalk.i64_in _ (by omega)
          have z1 := le_max (nodeT_le xs wd m (2 * p)) (by omega)
          have z2 := le_max (nodeT_le xs wd m (2 * p + 1)) (by omega)
          clear hz s1 s2 hsub
          generalize belL xs (m + 1) p = B at *
          go_wp2_with fail
          go_region_held3 (fun W => W.cell? ⟨w.heap.size, 0, none⟩ = some (.slice a1 xs.length c1) ∧ W.cell? ⟨w.heap.size, 1, none⟩ = some (.slice a2 xs.length c2) ∧ W.cell? ⟨w.heap.size, 2, none⟩ = some (.int .i64 wd)) (first | exact ⟨r0, r1, r2⟩ | exact ⟨(ya.cell _ _ lr).trans r0, (ya.cell _ _ lr).trans r1, (ya.cell _ _ lr).trans r2⟩ | exact ⟨cell_new1 ((ya.cell _ _ lr).trans r0) la, cell_new1 ((ya.cell _ _ lr).trans r1) la, cell_new1 ((ya.cell _ _ lr).trans r2) la⟩ | exact ⟨(yc.cell _ _ lr).trans r0, (yc.cell _ _ lr).trans r1, (yc.cell _ _ lr).trans r2⟩) (first | (go_at_call 66; refine (IH.out m (by omega) (l + 1) _ _ _ _ A3.out (by omega) (by first | exact A1.out | exact A2.out) (h.ext (by repeat (first | (with_reducible first | exact Ext.refl _ | assumption | apply Ext.alloc | apply Ext.drew | apply Ext.drewN | refine Ext.setCell ?_ ?_ _ | refine Ext.trans ?_ (by assumption)) | (show _ ≤ _; first | omega | (dsimp only; omega) | (simp; done) | (simp; omega))))) (Row.ext hu (by repeat (first | (with_reducible first | exact Ext.refl _ | assumption | apply Ext.alloc | apply Ext.drew | apply Ext.drewN | refine Ext.setCell ?_ ?_ _ | refine Ext.trans ?_ (by assumption)) | (show _ ≤ _; first | omega | (dsimp only; omega) | (simp; done) | (simp; omega))))) (by exact HT.out.ext (by repeat (first | (with_reducible first | exact Ext.refl _ | assumption | apply Ext.alloc | apply Ext.drew | apply Ext.drewN | refine Ext.setCell ?_ ?_ _ | refine Ext.trans ?_ (by assumption)) | (show _ ≤ _; first | omega | (dsimp only; omega) | (simp; done) | (simp; omega)))))).mono ?_; rintro e wa ⟨rfl, xa⟩; have ya : Ext wr wa := (by repeat (first | (with_reducible first | exact Ext.refl _ | assumption | apply Ext.alloc | apply Ext.drew | apply Ext.drewN | refine Ext.setCell ?_ ?_ _ | refine Ext.trans ?_ (by assumption)) | (show _ ≤ _; first | omega | (dsimp only; omega) | (simp; done) | (simp; omega)))); have la := Nat.lt_of_lt_of_le lr ya.size) | (go_at_call 100; refine (impl_hashOf 3 _ [nodeT xs wd m (2 * p), nodeT xs wd m (2 * p + 1)] wd _ (by exact strs_lit2 _ _ _ _) (fit2 z1 z2) (by exact HT.out.ext (by repeat (first | (with_reducible first | exact Ext.refl _ | assumption | apply Ext.alloc | apply Ext.drew | apply Ext.drewN | refine Ext.setCell ?_ ?_ _ | refine Ext.trans ?_ (by assumption)) | (show _ ≤ _; first | omega | (dsimp only; omega) | (simp; done) | (simp; omega)))))).mono ?_; rintro e wc ⟨rfl, xc⟩; have yc : Ext wr wc := (by repeat (first | (with_reducible first | exact Ext.refl _ | assumption | apply Ext.alloc | apply Ext.drew | apply Ext.drewN | refine Ext.setCell ?_ ?_ _ | refine Ext.trans ?_ (by assumption)) | (show _ ≤ _; first | omega | (dsimp only; omega) | (simp; done) | (simp; omega))))))
          all_goals
            go_wp2
            go_ret
            exact ⟨ret_str R.out.symm, (by repeat (first | (with_reducible first | exact Ext.refl _ | assumption | apply Ext.alloc | apply Ext.drew | apply Ext.drewN | refine Ext.setCell ?_ ?_ _ | refine Ext.trans ?_ (by assumption)) | (show _ ≤ _; first | omega | (dsimp only; omega) | (simp; done) | (simp; omega))))⟩
end Go.Proofs.YtagkcgbggeajkaaDoor
