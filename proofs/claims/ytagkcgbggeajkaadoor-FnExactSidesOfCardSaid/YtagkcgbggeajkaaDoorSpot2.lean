/- The hash of a place: the reference's recursion. -/
import Derived.Test.YtagkcgbggeajkaaDoorSpot
namespace Go.Proofs.YtagkcgbggeajkaaDoor
open Go.RowKit

theorem spots_fit {xs : List Leaf} (h : leavesOk xs = true) : LeafFit xs := fun l hl => by
  obtain ⟨h1, h2⟩ := leavesOk_small h
  have h3 := h2 l hl
  unfold maxLen
  omega
theorem em_at (wd : Int) (n : Nat) (hn : n ≤ 8) : ((emL wd 8).map Value.string)[8 - n]? = some (.string (emptyAt wd n)) := by
  rw [List.getElem?_map, emL_get wd 8 (8 - n) (by omega) (by omega), if_neg (by omega), show 8 - (8 - n) = n by omega]
  rfl

set_option maxRecDepth 100000 in
set_option maxHeartbeats 3200000 in
theorem spec_node (wd : Int) : ∀ (n : Nat) (xs : List Leaf) (l p : Int) (v u : Value) (w : World) (_ : leavesOk xs = true) (_ : l = 8 - (n : Int)) (_ : n ≤ 8) (_ : 0 ≤ p ∧ p < 2 ^ (8 - n)) (_ : Spts w v xs) (_ : Strs w u (emL wd 8)),
    Calls Tryd.prog 58 #[v, .int .i64 l, .int .i64 p, .int .i64 wd, u] w fun e w' => e = .returned (.string (nodeT xs wd n p)) ∧ Ext w w' := by
  intro n
  induction n using Nat.strongRecOn with
  | _ n ih =>
  intro xs l p v u w hok hl hn8 hp h hu
  obtain ⟨i0, hi, hz0, hz1, hz2⟩ := info_parts infoSpot
  obtain ⟨-, a1, c1, hv, hc1, hm1, g1⟩ := id h
  subst hv
  obtain ⟨-, a2, c2, hv, hc2, hm2, g2⟩ := id hu
  subst hv
  rw [emL_len wd 8 (by omega)] at hc2 g2 hu ⊢
  unfold maxLen at hm1 hm2
  obtain ⟨hp0, hp1⟩ := hp
  have hp2 := place_small hp1
  have hx24 := (leavesOk_small hok).1
  have HL := Lib.hid hl
  have HK := Lib.hid hok
  have IH := Lib.hid ih
  have HP := Lib.hid hp1
  have hsub : IntKind.i64.wrap (8 - l) = (n : Int) := by rw [IntWalk.i64_in _ (by omega)]; omega
  have hl0 : 0 ≤ l ∧ l ≤ 8 := by omega
  obtain ⟨hl0, hl8⟩ := hl0
  clear hl hok ih hp1
  go_enter Tryd.func58, Tryd.ntmps58
  go_wp2
  go_loopw [11, 12] (fun v i wr => ∃ j : Nat, j ≤ xs.length ∧ i = .int .i64 j ∧ wr.ownsRow w.heap.size 110 3 v (pickOn (belP n p) xs j).length ((pickOn (belP n p) xs j).flatMap spotC) ∧ Ext w wr) (fun _ i _ => xs.length - (intOf i).toNat)
  case atStart => exact ⟨0, Nat.zero_le _, rfl, World.ownsRow_lit w #[] 0 (Nat.le_refl _) (Nat.zero_le _) rfl, (by repeat (first | (with_reducible first | exact Ext.refl _ | assumption | apply Ext.alloc | apply Ext.drew | apply Ext.drewN | refine Ext.setCell ?_ ?_ _ | refine Ext.trans ?_ (by assumption)) | (show _ ≤ _; first | omega | (dsimp only; omega) | (simp; done) | (simp; omega))))⟩
  case round =>
    obtain ⟨j, hj, rfl, hown, hx⟩ := hrel
    obtain ⟨a, c, rfl⟩ := own_any hown
    have hsz := hx.size
    by_cases hlt : j < xs.length
    · rcases g1 with g1 | ⟨b1, o1, rfl, hb1, g1⟩
      · omega
      have e1 : wr.cell? ⟨b1, o1 + j * 3, none⟩ = some (.string xs[j].name) := (hx.cell b1 _ hb1).trans (g1 _ _ (sp_c0 xs j hlt))
      have e2 : wr.cell? ⟨b1, o1 + j * 3 + 1, none⟩ = some (.string xs[j].value) := (hx.cell b1 _ hb1).trans (g1 _ _ (sp_c1 xs j hlt))
      have e3 : wr.cell? ⟨b1, o1 + j * 3 + 2, none⟩ = some (.int .i64 (idxT xs[j].name)) := (hx.cell b1 _ hb1).trans (g1 _ _ (sp_c2 xs j hlt))
      have hdl := pickOn_length (belP n p) xs j
      have hi0 : (0 : Int) ≤ (j : Int) := by omega
      have hi1 : (j : Int) < (xs.length : Int) := by omega
      obtain ⟨k1, k2⟩ := idxT_bd xs[j].name
      clear g1 g2
      by_cases hq : (belP n p) xs[j] = true
      · have HU := Lib.hid (pickOn_keep hlt hq)
        have hqb : (idxT xs[j].name / 2 ^ n == p) = true := hq
        have hqd : idxT xs[j].name / 2 ^ n = p := by simpa using hqb
        have HO := Lib.hid hown
        have own2 := hown.alloc (Obj.cells #[Value.string xs[j].name, Value.string xs[j].value, Value.int .i64 (idxT xs[j].name)] 110)
        clear hq hown
        generalize xs[j] = z at *
        go_wp2_with (at_builtin; refine wpList_append_own _ rfl (.tmp 35) (.tmp 40) 79 rfl w.heap.size 110 i0 _ 3 40 Tryd.underlying79 hi hz0 hz1 hz2 rfl (by decide) _ _ _ rfl own2 ⟨wr.heap.size, 0, none⟩ 1 1 (spotC z) rfl rfl ?c1 ?c2 ?c3 ?c4 ?c5 ?_)
        case c1 => exact World.news_of_block (heap_alloc_new wr (Obj.cells #[Value.string z.name, Value.string z.value, Value.int .i64 (idxT z.name)] 110))
        case c2 => first | exact spot_one z | (intro u hu; exact spot_one z u (by simpa [spotC] using hu))
        case c3 => unfold maxLen; omega
        case c4 => omega
        case c5 => simp; omega
        intro v' w3 own3 hgrow _
        have hx3 : Ext w w3 := own_ext_of (hx.alloc _) own2 hgrow (Nat.le_refl _)
        obtain ⟨a', c', rfl⟩ := own_any own3
        have HO3 := Lib.hid own3
        clear own3 hgrow own2
        go_wp2
        go_roundw
        case rel => exact ⟨j + 1, by omega, by go_num, by rw [HU.out, List.length_append, List.flatMap_append]; simpa [spotC] using HO3.out, hx3⟩
        case measure => simp [intOf]; omega
      · have hq' : (belP n p) xs[j] = false := by simpa using hq
        have HU := Lib.hid (pickOn_skip hlt hq')
        have hqb : (idxT xs[j].name / 2 ^ n == p) = false := hq'
        have hqd : ¬ idxT xs[j].name / 2 ^ n = p := by simpa using hqb
        have HO := Lib.hid hown
        clear hq hq' hown
        generalize xs[j] = z at *
        go_wp2
        go_roundw
        case rel => exact ⟨j + 1, by omega, by go_num, by rw [HU.out]; exact HO.out, (by repeat (first | (with_reducible first | exact Ext.refl _ | assumption | apply Ext.alloc | apply Ext.drew | apply Ext.drewN | refine Ext.setCell ?_ ?_ _ | refine Ext.trans ?_ (by assumption)) | (show _ ≤ _; first | omega | (dsimp only; omega) | (simp; done) | (simp; omega))))⟩
        case measure => simp [intOf]; omega
    · obtain rfl : j = xs.length := by omega
      have hB : pickOn (belP n p) xs xs.length = belL xs n p := rfl
      rw [hB] at hown ⊢
      have sB : Spts wr (.slice a (belL xs n p).length c) (belL xs n p) := Row.of_owns hown
      have HBO := Lib.hid (belL_ok HK.out n p)
      have hlB := belL_len xs n p
      clear g1 hown hB
      by_cases hz : (belL xs n p).length = 0
      · have R := Lib.hid (node_none wd hz)
        have hi0 : (((belL xs n p).length : Int) == 0) = true := by rw [hz]; rfl
        have hd0 : decide (((belL xs n p).length : Int) = 0) = true := by rw [hz]; rfl
        rcases g2 with g2 | ⟨b2, o2, rfl, hb2, g2⟩
        · omega
        have hl9 : l < 9 := by omega
        have hlt : l.toNat = 8 - n := by have := HL.out; omega
        have e1 : wr.cell? ⟨b2, o2 + l.toNat, none⟩ = some (.string (emptyAt wd n)) := by rw [hlt]; exact (hx.cell b2 _ hb2).trans (g2 _ _ (em_at wd n hn8))
        clear hz g2 hlt
        generalize belL xs n p = B at *
        go_wp2
        go_ret
        exact ⟨ret_str R.out.symm, hx⟩
      · have hi0 : (((belL xs n p).length : Int) == 0) = false := by rw [beq_eq_false_iff_ne]; omega
        have hd0 : decide (((belL xs n p).length : Int) = 0) = false := decide_eq_false (by omega)
        by_cases hn0 : n = 0
        · have R := Lib.hid (show nodeT xs wd n p = bucketH (belL xs n p) wd by subst hn0; exact (node_bucket HK.out p wd).symm)
          obtain rfl : l = 8 := by have := HL.out; omega
          obtain ⟨i1, hj, hy0, hy1, hy2⟩ := info_parts infoLeaf
          obtain ⟨-, a3, c3, hv, hc3, hm3, g3⟩ := id sB
          injection hv with e1 e2 e3
          subst e1 e3
          clear hn0 hsub hz g2 e2
          generalize belL xs n p = B at *
          have hfit := spots_fit HBO.out
          unfold maxLen at hm3
          generalize wr = W1 at *
          go_wp2
          go_loopw [13, 14] (fun v i wq => ∃ j : Nat, j ≤ B.length ∧ i = .int .i64 j ∧ wq.ownsRow W1.heap.size 82 2 v j ((B.take j).flatMap Leaf.cells) ∧ Ext W1 wq) (fun _ i _ => B.length - (intOf i).toNat)
          case atStart => exact ⟨0, Nat.zero_le _, rfl, World.ownsRow_lit W1 #[] 0 (Nat.le_refl _) (Nat.zero_le _) rfl, (by repeat (first | (with_reducible first | exact Ext.refl _ | assumption | apply Ext.alloc | apply Ext.drew | apply Ext.drewN | refine Ext.setCell ?_ ?_ _ | refine Ext.trans ?_ (by assumption)) | (show _ ≤ _; first | omega | (dsimp only; omega) | (simp; done) | (simp; omega))))⟩
          case round =>
            obtain ⟨j, hjl, rfl, hown, hx2⟩ := hrel
            obtain ⟨a4, c4, rfl⟩ := own_any hown
            have hsz2 := hx2.size
            by_cases hlt : j < B.length
            · rcases g3 with g3 | ⟨b1, o1, rfl, hb1, g3⟩
              · omega
              have e1 : wr.cell? ⟨b1, o1 + j * 3, none⟩ = some (.string B[j].name) := (hx2.cell b1 _ hb1).trans (g3 _ _ (sp_c0 B j hlt))
              have e2 : wr.cell? ⟨b1, o1 + j * 3 + 1, none⟩ = some (.string B[j].value) := (hx2.cell b1 _ hb1).trans (g3 _ _ (sp_c1 B j hlt))
              have HU := Lib.hid (take_flat_succ Leaf.cells B j hlt)
              have hi2 : (0 : Int) ≤ (j : Int) := by omega
              have hi3 : (j : Int) < (B.length : Int) := by omega
              have own2 := hown.alloc (Obj.cells #[Value.string B[j].name, Value.string B[j].value] 82)
              clear g3 hown
              generalize B[j] = z at *
              go_wp2_with (at_builtin; refine wpList_append_own _ rfl (.tmp 58) (.tmp 64) 38 rfl W1.heap.size 82 i1 _ 2 32 Tryd.underlying38 hj hy0 hy1 hy2 rfl (by decide) _ _ _ rfl own2 ⟨wr.heap.size, 0, none⟩ 1 1 [.string z.name, .string z.value] rfl rfl ?c1 ?c2 ?c3 ?c4 ?c5 ?_)
              case c1 => exact World.news_of_block (heap_alloc_new wr (Obj.cells #[Value.string z.name, Value.string z.value] 82))
              case c2 => intro u hu; simp at hu; rcases hu with rfl | rfl <;> rfl
              case c3 => unfold maxLen; omega
              case c4 => omega
              case c5 => simp; omega
              intro v' w3 own3 hgrow _
              have hx3 : Ext W1 w3 := own_ext_of (hx2.alloc _) own2 hgrow (Nat.le_refl _)
              obtain ⟨a', c', rfl⟩ := own_any own3
              have HO3 := Lib.hid own3
              clear own3 hgrow own2
              go_wp2
              go_roundw
              case rel => exact ⟨j + 1, by omega, by go_num, by rw [HU.out]; exact HO3.out, hx3⟩
              case measure => simp [intOf]; omega
            · obtain rfl : j = B.length := by omega
              rw [List.take_length] at hown
              have sL : Lvs wr (.slice a4 B.length c4) B := Row.of_owns hown
              clear hown g3
              go_wp2_with fail
              refine (spec_BucketHash _ B wd _ sL hfit).mono ?_
              rintro e w5 ⟨rfl, x5⟩
              go_wp2
              go_ret
              exact ⟨ret_str R.out.symm, (by repeat (first | (with_reducible first | exact Ext.refl _ | assumption | apply Ext.alloc | apply Ext.drew | apply Ext.drewN | refine Ext.setCell ?_ ?_ _ | refine Ext.trans ?_ (by assumption)) | (show _ ≤ _; first | omega | (dsimp only; omega) | (simp; done) | (simp; omega))))⟩
        · obtain ⟨m, rfl⟩ : ∃ m, n = m + 1 := ⟨n - 1, by omega⟩
          have hne : ¬ l = 8 := by have := HL.out; omega
          have hneb : (l == 8) = false := by simpa using hne
          have hned : decide (l = 8) = false := decide_eq_false hne
          have R := Lib.hid (show nodeT xs wd (m + 1) p = tagH 3 [nodeT (belL xs (m + 1) p) wd m (2 * p), nodeT (belL xs (m + 1) p) wd m (2 * p + 1)] wd by rw [node_some wd hz, node_left, node_right])
          obtain ⟨s1, s2⟩ := place_step hn8 hp0 HP.out
          have A1 := Lib.hid (show 0 ≤ 2 * p ∧ 2 * p < 2 ^ (8 - m) by omega)
          have A2 := Lib.hid (show 0 ≤ 2 * p + 1 ∧ 2 * p + 1 < 2 ^ (8 - m) by omega)
          have A3 := Lib.hid (show l + 1 = 8 - (m : Int) by have := HL.out; omega)
          have hwl : IntKind.i64.wrap (l + 1) = l + 1 := IntWalk.i64_in _ (by omega)
          have hw2 : IntKind.i64.wrap (2 * p) = 2 * p := IntWalk.i64_in _ (by omega)
          have hw3 : IntKind.i64.wrap (2 * p + 1) = 2 * p + 1 := IntWalk.i64_in _ (by omega)
          have z1 := le_max (nodeT_le (belL xs (m + 1) p) wd m (2 * p)) (by omega)
          have z2 := le_max (nodeT_le (belL xs (m + 1) p) wd m (2 * p + 1)) (by omega)
          clear hz s1 s2 hsub g2
          generalize belL xs (m + 1) p = B at *
          go_wp2_with fail
          refine (IH.out m (by omega) B (l + 1) (2 * p) _ _ _ HBO.out A3.out (by omega) A1.out (sB.ext (by repeat (first | (with_reducible first | exact Ext.refl _ | assumption | apply Ext.alloc | apply Ext.drew | apply Ext.drewN | refine Ext.setCell ?_ ?_ _ | refine Ext.trans ?_ (by assumption)) | (show _ ≤ _; first | omega | (dsimp only; omega) | (simp; done) | (simp; omega))))) (hu.ext (by repeat (first | (with_reducible first | exact Ext.refl _ | assumption | apply Ext.alloc | apply Ext.drew | apply Ext.drewN | refine Ext.setCell ?_ ?_ _ | refine Ext.trans ?_ (by assumption)) | (show _ ≤ _; first | omega | (dsimp only; omega) | (simp; done) | (simp; omega)))))).mono ?_
          rintro e wa ⟨rfl, xa⟩
          go_wp2_with fail
          refine (IH.out m (by omega) B (l + 1) (2 * p + 1) _ _ _ HBO.out A3.out (by omega) A2.out (sB.ext (by repeat (first | (with_reducible first | exact Ext.refl _ | assumption | apply Ext.alloc | apply Ext.drew | apply Ext.drewN | refine Ext.setCell ?_ ?_ _ | refine Ext.trans ?_ (by assumption)) | (show _ ≤ _; first | omega | (dsimp only; omega) | (simp; done) | (simp; omega))))) (hu.ext (by repeat (first | (with_reducible first | exact Ext.refl _ | assumption | apply Ext.alloc | apply Ext.drew | apply Ext.drewN | refine Ext.setCell ?_ ?_ _ | refine Ext.trans ?_ (by assumption)) | (show _ ≤ _; first | omega | (dsimp only; omega) | (simp; done) | (simp; omega)))))).mono ?_
          rintro e wb ⟨rfl, xb⟩
          generalize nodeT B wd m (2 * p) = N1 at *
          generalize nodeT B wd m (2 * p + 1) = N2 at *
          go_wp2_with fail
          refine (spec_TagHash 3 _ [N1, N2] wd _ (by exact strs_lit2 _ _ _ _) (fit2 z1 z2)).mono ?_
          rintro e wc ⟨rfl, xc⟩
          go_wp2
          go_ret
          exact ⟨ret_str R.out.symm, (by repeat (first | (with_reducible first | exact Ext.refl _ | assumption | apply Ext.alloc | apply Ext.drew | apply Ext.drewN | refine Ext.setCell ?_ ?_ _ | refine Ext.trans ?_ (by assumption)) | (show _ ≤ _; first | omega | (dsimp only; omega) | (simp; done) | (simp; omega))))⟩
end Go.Proofs.YtagkcgbggeajkaaDoor
