/- Places in the tree: Node, Spot, Spot2, NHash, Sd, Sd2, in one text. -/
import Derived.Test.YtckipgijfgeghaaDoorGrove
import Derived.Test.YtckipgijfgeghaaDoorFold
import Derived.Test.YtckipgijfgeghaaDoorNodeP
import Derived.Deep.AppendLies
import Derived.Test.YtckipgijfgeghaaDoorHashA
import Derived.Test.YtckipgijfgeghaaDoorStrA
import Derived.Maps.AppendAt
namespace Go.Proofs.YtckipgijfgeghaaDoor
open Go.RowKit

theorem impl_emptyHashL (n : Nat) (l wd : Int) (w : World) (hl : l = 8 - (n : Int)) (hn : n ≤ 8) (hT : Tabs w) :
    Calls Tryd.prog 55 #[.int .i64 l, .int .i64 wd] w fun e w' => e = .returned (.string (emptyAt wd n)) ∧ Ext w w' := by
  subst hl
  exact impl_emptyHash n wd w hn hT
theorem leaves_fit {xs : List Leaf} (h : leavesOk xs = true) : LeafFit xs := fun l hl => by
  obtain ⟨h1, h2⟩ := leavesOk_small h
  have h3 := h2 l hl
  unfold maxLen
  omega

set_option maxRecDepth 100000 in
set_option maxHeartbeats 3200000 in
theorem impl_node (xs : List Leaf) (wd : Int) (hok : leavesOk xs = true) : ∀ (n : Nat) (l p : Int) (v u : Value) (w : World) (_ : l = 8 - (n : Int)) (_ : n ≤ 8) (_ : 0 ≤ p ∧ p < 2 ^ (8 - n)) (_ : Lvs w v xs) (_ : Row w 1 u xs.length (idxV xs xs.length)) (_ : Tabs w),
    Calls Tryd.prog 34 #[.agg #[v, u, .int .i64 wd], .int .i64 l, .int .i64 p] w fun e w' => e = .returned (.string (nodeT xs wd n p)) ∧ Ext w w' := by
  intro n
  induction n using Nat.strongRecOn with
  | _ n ih =>
  intro l p v u w hl hn8 hp h hu hT
  obtain ⟨i0, hi, hz0, hz1, hz2⟩ := info_parts infoLeaf
  obtain ⟨-, a1, c1, hv, hc1, hm1, g1⟩ := id h
  subst hv
  obtain ⟨-, a2, c2, hv, hc2, hm2, g2⟩ := id hu
  subst hv
  unfold maxLen at hm1 hm2
  obtain ⟨hp0, hp1⟩ := hp
  have hp2 := place_small hp1
  have hx24 := (leavesOk_small hok).1
  have HT := Lib.hid hT
  have HL := Lib.hid hl
  have HK := Lib.hid hok
  have IH := Lib.hid ih
  have HP := Lib.hid hp1
  have hsub : IntKind.i64.wrap (8 - l) = (n : Int) := by rw [IntWalk.i64_in _ (by omega)]; omega
  have hl0 : 0 ≤ l ∧ l ≤ 8 := by omega
  obtain ⟨hl0, hl8⟩ := hl0
  clear hT hl hok ih hp1
  go_enter Tryd.func34, Tryd.ntmps34
  go_wp2
  have q0 : (w.alloc (Obj.cells #[.slice a1 xs.length c1, .slice a2 xs.length c2, .int .i64 wd] 61)).cell? ⟨w.heap.size, 0, none⟩ = some (.slice a1 xs.length c1) := by simp [go_sem]
  have q1 : (w.alloc (Obj.cells #[.slice a1 xs.length c1, .slice a2 xs.length c2, .int .i64 wd] 61)).cell? ⟨w.heap.size, 1, none⟩ = some (.slice a2 xs.length c2) := by simp [go_sem]
  have q2 : (w.alloc (Obj.cells #[.slice a1 xs.length c1, .slice a2 xs.length c2, .int .i64 wd] 61)).cell? ⟨w.heap.size, 2, none⟩ = some (.int .i64 wd) := by simp [go_sem]
  have x0 : Ext w (w.alloc (Obj.cells #[.slice a1 xs.length c1, .slice a2 xs.length c2, .int .i64 wd] 61)) := (Ext.refl w).alloc _
  have l0 : w.heap.size + 1 = (w.alloc (Obj.cells #[.slice a1 xs.length c1, .slice a2 xs.length c2, .int .i64 wd] 61)).heap.size := by rw [World.size_alloc]
  generalize w.alloc (Obj.cells #[.slice a1 xs.length c1, .slice a2 xs.length c2, .int .i64 wd] 61) = W0 at *
  go_loopw [7, 13] (fun v i wr => ∃ j : Nat, j ≤ xs.length ∧ i = .int .i64 j ∧ wr.ownsRow W0.heap.size 34 2 v (pickOn (belP n p) xs j).length ((pickOn (belP n p) xs j).flatMap Leaf.cells) ∧ Ext W0 wr) (fun _ i _ => xs.length - (intOf i).toNat)
  case atStart => exact ⟨0, Nat.zero_le _, rfl, World.ownsRow_nil _ _ _ _, (by repeat (first | (with_reducible first | exact Ext.refl _ | assumption | apply Ext.alloc | apply Ext.drew | apply Ext.drewN | refine Ext.setCell ?_ ?_ _ | refine Ext.trans ?_ (by assumption)) | (show _ ≤ _; first | omega | (dsimp only; omega) | (simp; done) | (simp; omega))))⟩
  case round =>
    obtain ⟨j, hj, rfl, hown, hx⟩ := hrel
    obtain ⟨a, c, rfl⟩ := own_any hown
    have hsz := hx.size
    have xw : Ext w wr := x0.trans hx
    have lW : w.heap.size < W0.heap.size := by omega
    have r0 := (hx.cell _ _ lW).trans q0
    have r1 := (hx.cell _ _ lW).trans q1
    have r2 := (hx.cell _ _ lW).trans q2
    have lr : w.heap.size < wr.heap.size := by omega
    by_cases hlt : j < xs.length
    · rcases g1 with g1 | ⟨b1, o1, rfl, hb1, g1⟩
      · omega
      rcases g2 with g2 | ⟨b2, o2, rfl, hb2, g2⟩
      · omega
      have e1 : wr.cell? ⟨b1, o1 + j * 2, none⟩ = some (.string xs[j].name) := (xw.cell b1 _ hb1).trans (g1 _ _ (leaf_c0 xs j hlt))
      have e2 : wr.cell? ⟨b1, o1 + j * 2 + 1, none⟩ = some (.string xs[j].value) := (xw.cell b1 _ hb1).trans (g1 _ _ (leaf_c1 xs j hlt))
      have e3 : wr.cell? ⟨b2, o2 + j, none⟩ = some (.int .i64 (idxT xs[j].name)) := (xw.cell b2 _ hb2).trans (g2 _ _ (idxV_at xs j hlt))
      have lb2 : b2 < wr.heap.size := Nat.lt_of_lt_of_le hb2 xw.size
      have hdl := pickOn_length (belP n p) xs j
      have hi0 : (0 : Int) ≤ (j : Int) := by omega
      have hi1 : (j : Int) < (xs.length : Int) := by omega
      obtain ⟨k1, k2⟩ := idxT_bd xs[j].name
      clear g1 g2
      by_cases hq : (belP n p) xs[j] = true
      · have HU := Lib.hid (pickOn_keep hlt hq)
        have hqb : (idxT xs[j].name / 2 ^ n == p) = true := hq
        have hqd : idxT xs[j].name / 2 ^ n = p := by simpa using hqb
        have HO := Lib.hid hown
        clear hq hown
        generalize xs[j] = z at *
        have own2 := (HO.out.alloc (Obj.cells #[Value.string z.name, Value.string z.value] 34)).alloc (Obj.cells #[Value.string z.name, Value.string z.value] 34)
        go_wp2_with (at_builtin; refine wpList_append_own _ rfl (.tmp 28) (.tmp 30) 24 rfl W0.heap.size 34 i0 _ 2 32 Tryd.underlying24 hi hz0 hz1 hz2 rfl (by decide) _ _ _ rfl own2 ⟨wr.heap.size + 1, 0, none⟩ 1 1 [.string z.name, .string z.value] rfl rfl ?c1 ?c2 ?c3 ?c4 ?c5 ?_)
        case c1 =>
          have hh := heap_alloc_new (wr.alloc (Obj.cells #[Value.string z.name, Value.string z.value] 34)) (Obj.cells #[Value.string z.name, Value.string z.value] 34)
          rw [World.size_alloc] at hh
          exact World.news_of_block hh
        case c2 => intro u hu; simp at hu; rcases hu with rfl | rfl <;> rfl
        case c3 => unfold maxLen; omega
        case c4 => omega
        case c5 => simp; omega
        intro v' w3 own3 hgrow _
        have hx3 : Ext W0 w3 := own_ext_of ((hx.alloc _).alloc _) own2 hgrow (Nat.le_refl _)
        obtain ⟨a', c', rfl⟩ := own_any own3
        have HO3 := Lib.hid own3
        clear own3 hgrow own2
        go_wp2
        go_roundw
        case rel => exact ⟨j + 1, by omega, by go_num, by rw [HU.out, List.length_append, List.flatMap_append]; simpa [Leaf.cells] using HO3.out, hx3⟩
        case measure => simp [intOf]; omega
      · have hq' : (belP n p) xs[j] = false := by simpa using hq
        have HU := Lib.hid (pickOn_skip hlt hq')
        have hqb : (idxT xs[j].name / 2 ^ n == p) = false := hq'
        have hqd : ¬ idxT xs[j].name / 2 ^ n = p := by simpa using hqb
        have HO := Lib.hid hown
        clear hq hq' hown
        generalize xs[j] = z at *
        go_wp2
        go_roundw
        case rel => exact ⟨j + 1, by omega, by go_num, by rw [HU.out]; exact own_alloc HO.out _, (by repeat (first | (with_reducible first | exact Ext.refl _ | assumption | apply Ext.alloc | apply Ext.drew | apply Ext.drewN | refine Ext.setCell ?_ ?_ _ | refine Ext.trans ?_ (by assumption)) | (show _ ≤ _; first | omega | (dsimp only; omega) | (simp; done) | (simp; omega))))⟩
        case measure => simp [intOf]; omega
    · obtain rfl : j = xs.length := by omega
      have hB : pickOn (belP n p) xs xs.length = belL xs n p := rfl
      rw [hB] at hown ⊢
      have hbl : OwnLvs wr W0.heap.size (.slice a (belL xs n p).length c) (belL xs n p) := hown
      have hfitb := leaves_fit (belL_ok HK.out n p)
      have HBO := Lib.hid (belL_ok HK.out n p)
      have hlB := belL_len xs n p
      have sB := hbl.lvs
      have hbz : (bucketT (belL xs n p)).size ≤ 1073741824 := tagTx_size _ _
      clear g1 g2 hown hbl hB
      by_cases hn0 : n = 0
      · have R := Lib.hid (show nodeT xs wd n p = cutT (bucketT (belL xs n p)) wd by subst hn0; rfl)
        obtain rfl : l = 8 := by have := HL.out; omega
        clear hn0 hsub
        generalize belL xs n p = B at *
        go_wp2_with fail
        go_region_held3 (fun W => W.cell? ⟨w.heap.size, 2, none⟩ = some (.int .i64 wd)) (first | exact r2 | exact (ya.cell _ _ lr).trans r2 | exact (yb.cell _ _ lr).trans r2) (first | (go_at_call 54; refine (impl_bucketText _ B _ (sB.ext (by repeat (first | (with_reducible first | exact Ext.refl _ | assumption | apply Ext.alloc | apply Ext.drew | apply Ext.drewN | refine Ext.setCell ?_ ?_ _ | refine Ext.trans ?_ (by assumption)) | (show _ ≤ _; first | omega | (dsimp only; omega) | (simp; done) | (simp; omega))))) HBO.out).mono ?_; rintro e wa ⟨rfl, xa⟩; have ya : Ext wr wa := (by repeat (first | (with_reducible first | exact Ext.refl _ | assumption | apply Ext.alloc | apply Ext.drew | apply Ext.drewN | refine Ext.setCell ?_ ?_ _ | refine Ext.trans ?_ (by assumption)) | (show _ ≤ _; first | omega | (dsimp only; omega) | (simp; done) | (simp; omega))))) | (go_at_call 53; refine (impl_CutDigest (bucketT B) wd _ hbz (by exact HT.out.ext (by repeat (first | (with_reducible first | exact Ext.refl _ | assumption | apply Ext.alloc | apply Ext.drew | apply Ext.drewN | refine Ext.setCell ?_ ?_ _ | refine Ext.trans ?_ (by assumption)) | (show _ ≤ _; first | omega | (dsimp only; omega) | (simp; done) | (simp; omega)))))).mono ?_; rintro e wb ⟨rfl, xb⟩; have yb : Ext wr wb := (by repeat (first | (with_reducible first | exact Ext.refl _ | assumption | apply Ext.alloc | apply Ext.drew | apply Ext.drewN | refine Ext.setCell ?_ ?_ _ | refine Ext.trans ?_ (by assumption)) | (show _ ≤ _; first | omega | (dsimp only; omega) | (simp; done) | (simp; omega))))))
        all_goals
          go_wp2
          go_ret
          exact ⟨ret_str R.out.symm, (by repeat (first | (with_reducible first | exact Ext.refl _ | assumption | apply Ext.alloc | apply Ext.drew | apply Ext.drewN | refine Ext.setCell ?_ ?_ _ | refine Ext.trans ?_ (by assumption)) | (show _ ≤ _; first | omega | (dsimp only; omega) | (simp; done) | (simp; omega))))⟩
      · obtain ⟨m, rfl⟩ : ∃ m, n = m + 1 := ⟨n - 1, by omega⟩
        have hne : ¬ l = 8 := by have := HL.out; omega
        have hneb : (l == 8) = false := by simpa using hne
        have hned : decide (l = 8) = false := decide_eq_false hne
        by_cases hz : (belL xs (m + 1) p).length = 0
        · have R := Lib.hid (node_none wd hz)
          have hi0 : (((belL xs (m + 1) p).length : Int) == 0) = true := by rw [hz]; rfl
          have hd0 : decide (((belL xs (m + 1) p).length : Int) = 0) = true := by rw [hz]; rfl
          clear hz
          generalize belL xs (m + 1) p = B at *
          go_wp2_with fail
          refine (impl_emptyHashL (m + 1) l wd _ HL.out hn8 (by exact HT.out.ext (by repeat (first | (with_reducible first | exact Ext.refl _ | assumption | apply Ext.alloc | apply Ext.drew | apply Ext.drewN | refine Ext.setCell ?_ ?_ _ | refine Ext.trans ?_ (by assumption)) | (show _ ≤ _; first | omega | (dsimp only; omega) | (simp; done) | (simp; omega)))))).mono ?_
          rintro e wa ⟨rfl, xa⟩
          go_wp2
          go_ret
          exact ⟨ret_str R.out.symm, (by repeat (first | (with_reducible first | exact Ext.refl _ | assumption | apply Ext.alloc | apply Ext.drew | apply Ext.drewN | refine Ext.setCell ?_ ?_ _ | refine Ext.trans ?_ (by assumption)) | (show _ ≤ _; first | omega | (dsimp only; omega) | (simp; done) | (simp; omega))))⟩
        · have R := Lib.hid (node_some wd hz)
          have hi0 : (((belL xs (m + 1) p).length : Int) == 0) = false := by rw [beq_eq_false_iff_ne]; omega
          have hd0 : decide (((belL xs (m + 1) p).length : Int) = 0) = false := decide_eq_false (by omega)
          obtain ⟨s1, s2⟩ := place_step hn8 hp0 HP.out
          have A1 := Lib.hid (show 0 ≤ 2 * p ∧ 2 * p < 2 ^ (8 - m) by omega)
          have A2 := Lib.hid (show 0 ≤ 2 * p + 1 ∧ 2 * p + 1 < 2 ^ (8 - m) by omega)
          have A3 := Lib.hid (show l + 1 = 8 - (m : Int) by have := HL.out; omega)
          have hwl : IntKind.i64.wrap (l + 1) = l + 1 := IntWalk.i64_in _ (by omega)
          have hw2 : IntKind.i64.wrap (2 * p) = 2 * p := IntWalk.i64_in _ (by omega)
          have hw3 : IntKind.i64.wrap (2 * p + 1) = 2 * p + 1 := IntWalk.i64_in _ (by omega)
          have z1 := le_max (nodeT_le xs wd m (2 * p)) (by omega)
          have z2 := le_max (nodeT_le xs wd m (2 * p + 1)) (by omega)
          clear hz s1 s2 hsub
          generalize belL xs (m + 1) p = B at *
          go_wp2_with fail
          go_region_held3 (fun W => W.cell? ⟨w.heap.size, 0, none⟩ = some (.slice a1 xs.length c1) ∧ W.cell? ⟨w.heap.size, 1, none⟩ = some (.slice a2 xs.length c2) ∧ W.cell? ⟨w.heap.size, 2, none⟩ = some (.int .i64 wd)) (first | exact ⟨r0, r1, r2⟩ | exact ⟨(ya.cell _ _ lr).trans r0, (ya.cell _ _ lr).trans r1, (ya.cell _ _ lr).trans r2⟩ | exact ⟨cell_new1 ((ya.cell _ _ lr).trans r0) la, cell_new1 ((ya.cell _ _ lr).trans r1) la, cell_new1 ((ya.cell _ _ lr).trans r2) la⟩ | exact ⟨(yc.cell _ _ lr).trans r0, (yc.cell _ _ lr).trans r1, (yc.cell _ _ lr).trans r2⟩) (first | (go_at_call 34; refine (IH.out m (by omega) (l + 1) _ _ _ _ A3.out (by omega) (by first | exact A1.out | exact A2.out) (h.ext (by repeat (first | (with_reducible first | exact Ext.refl _ | assumption | apply Ext.alloc | apply Ext.drew | apply Ext.drewN | refine Ext.setCell ?_ ?_ _ | refine Ext.trans ?_ (by assumption)) | (show _ ≤ _; first | omega | (dsimp only; omega) | (simp; done) | (simp; omega))))) (Row.ext hu (by repeat (first | (with_reducible first | exact Ext.refl _ | assumption | apply Ext.alloc | apply Ext.drew | apply Ext.drewN | refine Ext.setCell ?_ ?_ _ | refine Ext.trans ?_ (by assumption)) | (show _ ≤ _; first | omega | (dsimp only; omega) | (simp; done) | (simp; omega))))) (by exact HT.out.ext (by repeat (first | (with_reducible first | exact Ext.refl _ | assumption | apply Ext.alloc | apply Ext.drew | apply Ext.drewN | refine Ext.setCell ?_ ?_ _ | refine Ext.trans ?_ (by assumption)) | (show _ ≤ _; first | omega | (dsimp only; omega) | (simp; done) | (simp; omega)))))).mono ?_; rintro e wa ⟨rfl, xa⟩; have ya : Ext wr wa := (by repeat (first | (with_reducible first | exact Ext.refl _ | assumption | apply Ext.alloc | apply Ext.drew | apply Ext.drewN | refine Ext.setCell ?_ ?_ _ | refine Ext.trans ?_ (by assumption)) | (show _ ≤ _; first | omega | (dsimp only; omega) | (simp; done) | (simp; omega)))); have la := Nat.lt_of_lt_of_le lr ya.size) | (go_at_call 42; refine (impl_hashOf 3 _ [nodeT xs wd m (2 * p), nodeT xs wd m (2 * p + 1)] wd _ (by exact strs_lit2 _ _ _ _) (fit2 z1 z2) (by exact HT.out.ext (by repeat (first | (with_reducible first | exact Ext.refl _ | assumption | apply Ext.alloc | apply Ext.drew | apply Ext.drewN | refine Ext.setCell ?_ ?_ _ | refine Ext.trans ?_ (by assumption)) | (show _ ≤ _; first | omega | (dsimp only; omega) | (simp; done) | (simp; omega)))))).mono ?_; rintro e wc ⟨rfl, xc⟩; have yc : Ext wr wc := (by repeat (first | (with_reducible first | exact Ext.refl _ | assumption | apply Ext.alloc | apply Ext.drew | apply Ext.drewN | refine Ext.setCell ?_ ?_ _ | refine Ext.trans ?_ (by assumption)) | (show _ ≤ _; first | omega | (dsimp only; omega) | (simp; done) | (simp; omega))))))
          all_goals
            go_wp2
            go_ret
            exact ⟨ret_str R.out.symm, (by repeat (first | (with_reducible first | exact Ext.refl _ | assumption | apply Ext.alloc | apply Ext.drew | apply Ext.drewN | refine Ext.setCell ?_ ?_ _ | refine Ext.trans ?_ (by assumption)) | (show _ ≤ _; first | omega | (dsimp only; omega) | (simp; done) | (simp; omega))))⟩

/-- a leaf and its index -/
def spotC (l : Leaf) : List Value := [.string l.name, .string l.value, .int .i64 (idxT l.name)]
theorem spotC_len (l : Leaf) : (spotC l).length = 3 := rfl
def Spts (w : World) (v : Value) (xs : List Leaf) : Prop := Row w 3 v xs.length (xs.flatMap spotC)
theorem Spts.ext {w w' : World} {v : Value} {xs : List Leaf} (h : Spts w v xs) (hx : Ext w w') : Spts w' v xs := Row.ext h hx
theorem sp_c0 (xs : List Leaf) (k : Nat) (h : k < xs.length) : (xs.flatMap spotC)[k * 3]? = some (.string xs[k].name) := flat_get spotC_len xs k 0 h (by omega)
theorem sp_c1 (xs : List Leaf) (k : Nat) (h : k < xs.length) : (xs.flatMap spotC)[k * 3 + 1]? = some (.string xs[k].value) := flat_get spotC_len xs k 1 h (by omega)
theorem sp_c2 (xs : List Leaf) (k : Nat) (h : k < xs.length) : (xs.flatMap spotC)[k * 3 + 2]? = some (.int .i64 (idxT xs[k].name)) := flat_get spotC_len xs k 2 h (by omega)
theorem infoSpot : (Tryd.prog.info? 97).map (fun i => (i.zero, i.size, i.bytes)) = some (some (.agg #[.string ⟨#[]⟩, .string ⟨#[]⟩, .int .i64 0]), 3, 40) := by kernel_rfl
theorem spot_one (z : Leaf) : ∀ u ∈ spotC z, u.oneCell' = true := by
  intro u hu
  simp only [spotC, List.mem_cons, List.not_mem_nil, or_false] at hu
  rcases hu with rfl | rfl | rfl <;> rfl
theorem take_flat_succ {α : Type} (f : α → List Value) (xs : List α) (k : Nat) (h : k < xs.length) : (xs.take (k + 1)).flatMap f = (xs.take k).flatMap f ++ f xs[k] := by
  rw [List.take_succ_eq_append_getElem h, List.flatMap_append]
  simp

set_option maxRecDepth 100000 in
set_option maxHeartbeats 3200000 in
theorem spec_l10Spots (v : Value) (xs : List Leaf) (w : World) (h : Lvs w v xs) (hn : NamesFit xs) (hb : xs.length ≤ 1000) :
    Calls Tryd.prog 46 #[v] w fun e w' => ∃ a c, e = .returned (.slice a xs.length c) ∧ Spts w' (.slice a xs.length c) xs ∧ Ext w w' := by
  obtain ⟨i0, hi, hz0, hz1, hz2⟩ := info_parts infoSpot
  obtain ⟨-, a1, c1, rfl, hc1, hm1, g1⟩ := h
  unfold maxLen at hm1
  have HN := Lib.hid hn
  clear hn
  go_enter Tryd.func46, Tryd.ntmps46
  go_wp2
  go_loopw [3, 4] (fun v i wr => ∃ j : Nat, j ≤ xs.length ∧ i = .int .i64 j ∧ wr.ownsRow w.heap.size 97 3 v j ((xs.take j).flatMap spotC) ∧ Ext w wr) (fun _ i _ => xs.length - (intOf i).toNat)
  case atStart => exact ⟨0, Nat.zero_le _, rfl, World.ownsRow_lit w #[] 0 (Nat.le_refl _) (Nat.zero_le _) rfl, (by repeat (first | (with_reducible first | exact Ext.refl _ | assumption | apply Ext.alloc | apply Ext.drew | apply Ext.drewN | refine Ext.setCell ?_ ?_ _ | refine Ext.trans ?_ (by assumption)) | (show _ ≤ _; first | omega | (dsimp only; omega) | (simp; done) | (simp; omega))))⟩
  case round =>
    obtain ⟨j, hj, rfl, hown, hx⟩ := hrel
    obtain ⟨a, c, rfl⟩ := own_any hown
    have hsz := hx.size
    by_cases hlt : j < xs.length
    · rcases g1 with g1 | ⟨b1, o1, rfl, hb1, g1⟩
      · omega
      have f1 := Lib.hid (g1 _ _ (leaf_c0 xs j hlt))
      have f2 := Lib.hid (g1 _ _ (leaf_c1 xs j hlt))
      have e1 : wr.cell? ⟨b1, o1 + j * 2, none⟩ = some (.string xs[j].name) := (hx.cell b1 _ hb1).trans f1.out
      have e2 : wr.cell? ⟨b1, o1 + j * 2 + 1, none⟩ = some (.string xs[j].value) := (hx.cell b1 _ hb1).trans f2.out
      have l1 : b1 < wr.heap.size := Nat.lt_of_lt_of_le hb1 hsz
      have hnm := HN.out xs[j] (List.getElem_mem hlt)
      have HU := Lib.hid (take_flat_succ spotC xs j hlt)
      have HO := Lib.hid hown
      have hi0 : (0 : Int) ≤ (j : Int) := by omega
      have hi1 : (j : Int) < (xs.length : Int) := by omega
      clear g1 hown
      generalize xs[j] = z at *
      go_wp2_with fail
      go_region_held3 (fun W => W.cell? ⟨b1, o1 + j * 2, none⟩ = some (.string z.name) ∧ W.cell? ⟨b1, o1 + j * 2 + 1, none⟩ = some (.string z.value)) (first | exact ⟨e1, e2⟩ | exact ⟨d1, d2⟩ | exact ⟨cell_new1 d1 l2, cell_new1 d2 l2⟩ | exact ⟨(y9.cell b1 _ hb1).trans f1.out, (y9.cell b1 _ hb1).trans f2.out⟩) (first | (go_at_call 72; refine (spec_IndexOf z.name _ hnm).mono ?_; rintro e w1 ⟨rfl, x1⟩; have y1 : Ext wr w1 := (by repeat (first | (with_reducible first | exact Ext.refl _ | assumption | apply Ext.alloc | apply Ext.drew | apply Ext.drewN | refine Ext.setCell ?_ ?_ _ | refine Ext.trans ?_ (by assumption)) | (show _ ≤ _; first | omega | (dsimp only; omega) | (simp; done) | (simp; omega)))); have l2 := Nat.lt_of_lt_of_le l1 y1.size; have z1 := y1.size; have d1 := (y1.cell _ _ l1).trans e1; have d2 := (y1.cell _ _ l1).trans e2) | (refine step_append_lies _ rfl (.tmp 12) (.tmp 24) 79 (by rfl) w.heap.size 97 i0 (.agg #[.string ⟨#[]⟩, .string ⟨#[]⟩, .int .i64 0]) 3 40 Tryd.underlying79 hi hz0 hz1 hz2 rfl (by decide) _ _ _ (by rfl) (own_alloc (own_ext HO.out y1) _) ⟨w1.heap.size, 0, none⟩ 1 1 (spotC z) (by rfl) rfl (World.news_of_block (heap_alloc_new w1 (Obj.cells #[Value.string z.name, Value.string z.value, Value.int .i64 (idxT z.name)] 97))) (spot_one z) (by decide) (by unfold maxLen; omega) (by omega) (by simp; omega) _ rfl ?_; intro g cap w9 hown9 hgrow _ _; have y9 : Ext w w9 := own_ext_of ((hx.trans y1).alloc _) (own_alloc (own_ext HO.out y1) _) hgrow (Nat.le_refl _); have HO9 := Lib.hid hown9; clear hown9 hgrow))
      all_goals
        go_wp2
        go_roundw
        case rel => exact ⟨j + 1, by omega, by go_num, by rw [HU.out]; exact HO9.out, y9⟩
        case measure => simp [intOf]; omega
    · obtain rfl : j = xs.length := by omega
      rw [List.take_length] at hown
      have hr : Spts wr (.slice a xs.length c) xs := Row.of_owns hown
      clear hown g1
      go_wp2
      go_ret
      exact ⟨_, _, rfl, hr, hx⟩

theorem spots_fit {xs : List Leaf} (h : leavesOk xs = true) : LeafFit xs := fun l hl => by
  obtain ⟨h1, h2⟩ := leavesOk_small h
  have h3 := h2 l hl
  unfold maxLen
  omega
theorem em_at (wd : Int) (n : Nat) (hn : n ≤ 8) : ((emL wd 8).map Value.string)[8 - n]? = some (.string (emptyAt wd n)) := by
  rw [List.getElem?_map, emL_get wd 8 (8 - n) (by omega) (by omega), if_neg (by omega), show 8 - (8 - n) = n by omega]
  rfl

set_option maxRecDepth 100000 in
set_option maxHeartbeats 3200000 in
theorem spec_node (wd : Int) : ∀ (n : Nat) (xs : List Leaf) (l p : Int) (v u : Value) (w : World) (_ : leavesOk xs = true) (_ : l = 8 - (n : Int)) (_ : n ≤ 8) (_ : 0 ≤ p ∧ p < 2 ^ (8 - n)) (_ : Spts w v xs) (_ : Strs w u (emL wd 8)),
    Calls Tryd.prog 45 #[v, .int .i64 l, .int .i64 p, .int .i64 wd, u] w fun e w' => e = .returned (.string (nodeT xs wd n p)) ∧ Ext w w' := by
  intro n
  induction n using Nat.strongRecOn with
  | _ n ih =>
  intro xs l p v u w hok hl hn8 hp h hu
  obtain ⟨i0, hi, hz0, hz1, hz2⟩ := info_parts infoSpot
  obtain ⟨-, a1, c1, hv, hc1, hm1, g1⟩ := id h
  subst hv
  obtain ⟨-, a2, c2, hv, hc2, hm2, g2⟩ := id hu
  subst hv
  rw [emL_len wd 8 (by omega)] at hc2 g2 hu ⊢
  unfold maxLen at hm1 hm2
  obtain ⟨hp0, hp1⟩ := hp
  have hp2 := place_small hp1
  have hx24 := (leavesOk_small hok).1
  have HL := Lib.hid hl
  have HK := Lib.hid hok
  have IH := Lib.hid ih
  have HP := Lib.hid hp1
  have hsub : IntKind.i64.wrap (8 - l) = (n : Int) := by rw [IntWalk.i64_in _ (by omega)]; omega
  have hl0 : 0 ≤ l ∧ l ≤ 8 := by omega
  obtain ⟨hl0, hl8⟩ := hl0
  clear hl hok ih hp1
  go_enter Tryd.func45, Tryd.ntmps45
  go_wp2
  go_loopw [11, 12] (fun v i wr => ∃ j : Nat, j ≤ xs.length ∧ i = .int .i64 j ∧ wr.ownsRow w.heap.size 97 3 v (pickOn (belP n p) xs j).length ((pickOn (belP n p) xs j).flatMap spotC) ∧ Ext w wr) (fun _ i _ => xs.length - (intOf i).toNat)
  case atStart => exact ⟨0, Nat.zero_le _, rfl, World.ownsRow_lit w #[] 0 (Nat.le_refl _) (Nat.zero_le _) rfl, (by repeat (first | (with_reducible first | exact Ext.refl _ | assumption | apply Ext.alloc | apply Ext.drew | apply Ext.drewN | refine Ext.setCell ?_ ?_ _ | refine Ext.trans ?_ (by assumption)) | (show _ ≤ _; first | omega | (dsimp only; omega) | (simp; done) | (simp; omega))))⟩
  case round =>
    obtain ⟨j, hj, rfl, hown, hx⟩ := hrel
    obtain ⟨a, c, rfl⟩ := own_any hown
    have hsz := hx.size
    by_cases hlt : j < xs.length
    · rcases g1 with g1 | ⟨b1, o1, rfl, hb1, g1⟩
      · omega
      have e1 : wr.cell? ⟨b1, o1 + j * 3, none⟩ = some (.string xs[j].name) := (hx.cell b1 _ hb1).trans (g1 _ _ (sp_c0 xs j hlt))
      have e2 : wr.cell? ⟨b1, o1 + j * 3 + 1, none⟩ = some (.string xs[j].value) := (hx.cell b1 _ hb1).trans (g1 _ _ (sp_c1 xs j hlt))
      have e3 : wr.cell? ⟨b1, o1 + j * 3 + 2, none⟩ = some (.int .i64 (idxT xs[j].name)) := (hx.cell b1 _ hb1).trans (g1 _ _ (sp_c2 xs j hlt))
      have hdl := pickOn_length (belP n p) xs j
      have hi0 : (0 : Int) ≤ (j : Int) := by omega
      have hi1 : (j : Int) < (xs.length : Int) := by omega
      obtain ⟨k1, k2⟩ := idxT_bd xs[j].name
      clear g1 g2
      by_cases hq : (belP n p) xs[j] = true
      · have HU := Lib.hid (pickOn_keep hlt hq)
        have hqb : (idxT xs[j].name / 2 ^ n == p) = true := hq
        have hqd : idxT xs[j].name / 2 ^ n = p := by simpa using hqb
        have HO := Lib.hid hown
        have own2 := hown.alloc (Obj.cells #[Value.string xs[j].name, Value.string xs[j].value, Value.int .i64 (idxT xs[j].name)] 97)
        clear hq hown
        generalize xs[j] = z at *
        go_wp2_with (at_builtin; refine wpList_append_own _ rfl (.tmp 35) (.tmp 40) 79 rfl w.heap.size 97 i0 _ 3 40 Tryd.underlying79 hi hz0 hz1 hz2 rfl (by decide) _ _ _ rfl own2 ⟨wr.heap.size, 0, none⟩ 1 1 (spotC z) rfl rfl ?c1 ?c2 ?c3 ?c4 ?c5 ?_)
        case c1 => exact World.news_of_block (heap_alloc_new wr (Obj.cells #[Value.string z.name, Value.string z.value, Value.int .i64 (idxT z.name)] 97))
        case c2 => first | exact spot_one z | (intro u hu; exact spot_one z u (by simpa [spotC] using hu))
        case c3 => unfold maxLen; omega
        case c4 => omega
        case c5 => simp; omega
        intro v' w3 own3 hgrow _
        have hx3 : Ext w w3 := own_ext_of (hx.alloc _) own2 hgrow (Nat.le_refl _)
        obtain ⟨a', c', rfl⟩ := own_any own3
        have HO3 := Lib.hid own3
        clear own3 hgrow own2
        go_wp2
        go_roundw
        case rel => exact ⟨j + 1, by omega, by go_num, by rw [HU.out, List.length_append, List.flatMap_append]; simpa [spotC] using HO3.out, hx3⟩
        case measure => simp [intOf]; omega
      · have hq' : (belP n p) xs[j] = false := by simpa using hq
        have HU := Lib.hid (pickOn_skip hlt hq')
        have hqb : (idxT xs[j].name / 2 ^ n == p) = false := hq'
        have hqd : ¬ idxT xs[j].name / 2 ^ n = p := by simpa using hqb
        have HO := Lib.hid hown
        clear hq hq' hown
        generalize xs[j] = z at *
        go_wp2
        go_roundw
        case rel => exact ⟨j + 1, by omega, by go_num, by rw [HU.out]; exact HO.out, (by repeat (first | (with_reducible first | exact Ext.refl _ | assumption | apply Ext.alloc | apply Ext.drew | apply Ext.drewN | refine Ext.setCell ?_ ?_ _ | refine Ext.trans ?_ (by assumption)) | (show _ ≤ _; first | omega | (dsimp only; omega) | (simp; done) | (simp; omega))))⟩
        case measure => simp [intOf]; omega
    · obtain rfl : j = xs.length := by omega
      have hB : pickOn (belP n p) xs xs.length = belL xs n p := rfl
      rw [hB] at hown ⊢
      have sB : Spts wr (.slice a (belL xs n p).length c) (belL xs n p) := Row.of_owns hown
      have HBO := Lib.hid (belL_ok HK.out n p)
      have hlB := belL_len xs n p
      clear g1 hown hB
      by_cases hz : (belL xs n p).length = 0
      · have R := Lib.hid (node_none wd hz)
        have hi0 : (((belL xs n p).length : Int) == 0) = true := by rw [hz]; rfl
        have hd0 : decide (((belL xs n p).length : Int) = 0) = true := by rw [hz]; rfl
        rcases g2 with g2 | ⟨b2, o2, rfl, hb2, g2⟩
        · omega
        have hl9 : l < 9 := by omega
        have hlt : l.toNat = 8 - n := by have := HL.out; omega
        have e1 : wr.cell? ⟨b2, o2 + l.toNat, none⟩ = some (.string (emptyAt wd n)) := by rw [hlt]; exact (hx.cell b2 _ hb2).trans (g2 _ _ (em_at wd n hn8))
        clear hz g2 hlt
        generalize belL xs n p = B at *
        go_wp2
        go_ret
        exact ⟨ret_str R.out.symm, hx⟩
      · have hi0 : (((belL xs n p).length : Int) == 0) = false := by rw [beq_eq_false_iff_ne]; omega
        have hd0 : decide (((belL xs n p).length : Int) = 0) = false := decide_eq_false (by omega)
        by_cases hn0 : n = 0
        · have R := Lib.hid (show nodeT xs wd n p = bucketH (belL xs n p) wd by subst hn0; exact (node_bucket HK.out p wd).symm)
          obtain rfl : l = 8 := by have := HL.out; omega
          obtain ⟨i1, hj, hy0, hy1, hy2⟩ := info_parts infoLeaf
          obtain ⟨-, a3, c3, hv, hc3, hm3, g3⟩ := id sB
          injection hv with e1 e2 e3
          subst e1 e3
          clear hn0 hsub hz g2 e2
          generalize belL xs n p = B at *
          have hfit := spots_fit HBO.out
          unfold maxLen at hm3
          generalize wr = W1 at *
          go_wp2
          go_loopw [13, 14] (fun v i wq => ∃ j : Nat, j ≤ B.length ∧ i = .int .i64 j ∧ wq.ownsRow W1.heap.size 34 2 v j ((B.take j).flatMap Leaf.cells) ∧ Ext W1 wq) (fun _ i _ => B.length - (intOf i).toNat)
          case atStart => exact ⟨0, Nat.zero_le _, rfl, World.ownsRow_lit W1 #[] 0 (Nat.le_refl _) (Nat.zero_le _) rfl, (by repeat (first | (with_reducible first | exact Ext.refl _ | assumption | apply Ext.alloc | apply Ext.drew | apply Ext.drewN | refine Ext.setCell ?_ ?_ _ | refine Ext.trans ?_ (by assumption)) | (show _ ≤ _; first | omega | (dsimp only; omega) | (simp; done) | (simp; omega))))⟩
          case round =>
            obtain ⟨j, hjl, rfl, hown, hx2⟩ := hrel
            obtain ⟨a4, c4, rfl⟩ := own_any hown
            have hsz2 := hx2.size
            by_cases hlt : j < B.length
            · rcases g3 with g3 | ⟨b1, o1, rfl, hb1, g3⟩
              · omega
              have e1 : wr.cell? ⟨b1, o1 + j * 3, none⟩ = some (.string B[j].name) := (hx2.cell b1 _ hb1).trans (g3 _ _ (sp_c0 B j hlt))
              have e2 : wr.cell? ⟨b1, o1 + j * 3 + 1, none⟩ = some (.string B[j].value) := (hx2.cell b1 _ hb1).trans (g3 _ _ (sp_c1 B j hlt))
              have HU := Lib.hid (take_flat_succ Leaf.cells B j hlt)
              have hi2 : (0 : Int) ≤ (j : Int) := by omega
              have hi3 : (j : Int) < (B.length : Int) := by omega
              have own2 := hown.alloc (Obj.cells #[Value.string B[j].name, Value.string B[j].value] 34)
              clear g3 hown
              generalize B[j] = z at *
              go_wp2_with (at_builtin; refine wpList_append_own _ rfl (.tmp 58) (.tmp 64) 24 rfl W1.heap.size 34 i1 _ 2 32 Tryd.underlying24 hj hy0 hy1 hy2 rfl (by decide) _ _ _ rfl own2 ⟨wr.heap.size, 0, none⟩ 1 1 [.string z.name, .string z.value] rfl rfl ?c1 ?c2 ?c3 ?c4 ?c5 ?_)
              case c1 => exact World.news_of_block (heap_alloc_new wr (Obj.cells #[Value.string z.name, Value.string z.value] 34))
              case c2 => intro u hu; simp at hu; rcases hu with rfl | rfl <;> rfl
              case c3 => unfold maxLen; omega
              case c4 => omega
              case c5 => simp; omega
              intro v' w3 own3 hgrow _
              have hx3 : Ext W1 w3 := own_ext_of (hx2.alloc _) own2 hgrow (Nat.le_refl _)
              obtain ⟨a', c', rfl⟩ := own_any own3
              have HO3 := Lib.hid own3
              clear own3 hgrow own2
              go_wp2
              go_roundw
              case rel => exact ⟨j + 1, by omega, by go_num, by rw [HU.out]; exact HO3.out, hx3⟩
              case measure => simp [intOf]; omega
            · obtain rfl : j = B.length := by omega
              rw [List.take_length] at hown
              have sL : Lvs wr (.slice a4 B.length c4) B := Row.of_owns hown
              clear hown g3
              go_wp2_with fail
              refine (spec_BucketHash _ B wd _ sL hfit).mono ?_
              rintro e w5 ⟨rfl, x5⟩
              go_wp2
              go_ret
              exact ⟨ret_str R.out.symm, (by repeat (first | (with_reducible first | exact Ext.refl _ | assumption | apply Ext.alloc | apply Ext.drew | apply Ext.drewN | refine Ext.setCell ?_ ?_ _ | refine Ext.trans ?_ (by assumption)) | (show _ ≤ _; first | omega | (dsimp only; omega) | (simp; done) | (simp; omega))))⟩
        · obtain ⟨m, rfl⟩ : ∃ m, n = m + 1 := ⟨n - 1, by omega⟩
          have hne : ¬ l = 8 := by have := HL.out; omega
          have hneb : (l == 8) = false := by simpa using hne
          have hned : decide (l = 8) = false := decide_eq_false hne
          have R := Lib.hid (show nodeT xs wd (m + 1) p = tagH 3 [nodeT (belL xs (m + 1) p) wd m (2 * p), nodeT (belL xs (m + 1) p) wd m (2 * p + 1)] wd by rw [node_some wd hz, node_left, node_right])
          obtain ⟨s1, s2⟩ := place_step hn8 hp0 HP.out
          have A1 := Lib.hid (show 0 ≤ 2 * p ∧ 2 * p < 2 ^ (8 - m) by omega)
          have A2 := Lib.hid (show 0 ≤ 2 * p + 1 ∧ 2 * p + 1 < 2 ^ (8 - m) by omega)
          have A3 := Lib.hid (show l + 1 = 8 - (m : Int) by have := HL.out; omega)
          have hwl : IntKind.i64.wrap (l + 1) = l + 1 := IntWalk.i64_in _ (by omega)
          have hw2 : IntKind.i64.wrap (2 * p) = 2 * p := IntWalk.i64_in _ (by omega)
          have hw3 : IntKind.i64.wrap (2 * p + 1) = 2 * p + 1 := IntWalk.i64_in _ (by omega)
          have z1 := le_max (nodeT_le (belL xs (m + 1) p) wd m (2 * p)) (by omega)
          have z2 := le_max (nodeT_le (belL xs (m + 1) p) wd m (2 * p + 1)) (by omega)
          clear hz s1 s2 hsub g2
          generalize belL xs (m + 1) p = B at *
          go_wp2_with fail
          refine (IH.out m (by omega) B (l + 1) (2 * p) _ _ _ HBO.out A3.out (by omega) A1.out (sB.ext (by repeat (first | (with_reducible first | exact Ext.refl _ | assumption | apply Ext.alloc | apply Ext.drew | apply Ext.drewN | refine Ext.setCell ?_ ?_ _ | refine Ext.trans ?_ (by assumption)) | (show _ ≤ _; first | omega | (dsimp only; omega) | (simp; done) | (simp; omega))))) (hu.ext (by repeat (first | (with_reducible first | exact Ext.refl _ | assumption | apply Ext.alloc | apply Ext.drew | apply Ext.drewN | refine Ext.setCell ?_ ?_ _ | refine Ext.trans ?_ (by assumption)) | (show _ ≤ _; first | omega | (dsimp only; omega) | (simp; done) | (simp; omega)))))).mono ?_
          rintro e wa ⟨rfl, xa⟩
          go_wp2_with fail
          refine (IH.out m (by omega) B (l + 1) (2 * p + 1) _ _ _ HBO.out A3.out (by omega) A2.out (sB.ext (by repeat (first | (with_reducible first | exact Ext.refl _ | assumption | apply Ext.alloc | apply Ext.drew | apply Ext.drewN | refine Ext.setCell ?_ ?_ _ | refine Ext.trans ?_ (by assumption)) | (show _ ≤ _; first | omega | (dsimp only; omega) | (simp; done) | (simp; omega))))) (hu.ext (by repeat (first | (with_reducible first | exact Ext.refl _ | assumption | apply Ext.alloc | apply Ext.drew | apply Ext.drewN | refine Ext.setCell ?_ ?_ _ | refine Ext.trans ?_ (by assumption)) | (show _ ≤ _; first | omega | (dsimp only; omega) | (simp; done) | (simp; omega)))))).mono ?_
          rintro e wb ⟨rfl, xb⟩
          generalize nodeT B wd m (2 * p) = N1 at *
          generalize nodeT B wd m (2 * p + 1) = N2 at *
          go_wp2_with fail
          refine (spec_TagHash 3 _ [N1, N2] wd _ (by exact strs_lit2 _ _ _ _) (fit2 z1 z2)).mono ?_
          rintro e wc ⟨rfl, xc⟩
          go_wp2
          go_ret
          exact ⟨ret_str R.out.symm, (by repeat (first | (with_reducible first | exact Ext.refl _ | assumption | apply Ext.alloc | apply Ext.drew | apply Ext.drewN | refine Ext.setCell ?_ ?_ _ | refine Ext.trans ?_ (by assumption)) | (show _ ≤ _; first | omega | (dsimp only; omega) | (simp; done) | (simp; omega))))⟩

theorem pow_bd {k : Nat} (h : k ≤ 8) : (1 : Int) ≤ 2 ^ k ∧ (2 : Int) ^ k ≤ 256 := by
  have h1 := Nat.pow_le_pow_right (show 0 < 2 by decide) h
  have h2 := Nat.pow_pos (n := k) (show 0 < 2 by decide)
  have e : ((2 ^ k : Nat) : Int) = 2 ^ k := by push_cast; rfl
  have h3 : (2 : Nat) ^ 8 = 256 := by decide
  omega

theorem names_ok {xs : List Leaf} (h : leavesOk xs = true) : NamesFit xs := fun l hl => by
  obtain ⟨h1, h2⟩ := leavesOk_small h
  have h3 := h2 l hl
  omega

set_option maxRecDepth 100000 in
set_option maxHeartbeats 1600000 in
theorem impl_NodeHash (v : Value) (xs : List Leaf) (l p wd : Int) (w : World) (h : Lvs w v xs) (hf : LeafFit xs) (hT : Tabs w) :
    Calls Tryd.prog 20 #[v, .int .i64 l, .int .i64 p, .int .i64 wd] w fun e w' => e = .returned (.string (nodeH xs l p wd)) ∧ Ext w w' := by
  have HT := Lib.hid hT
  clear hT
  obtain ⟨a, c, rfl⟩ := h.form
  cases h1 : leavesOk xs
  · have R := Lib.hid (nodeH_no1 (l := l) (p := p) (wd := wd) h1)
    have H1 := Lib.hid h1
    clear h1
    go_enter Tryd.func20, Tryd.ntmps20
    go_wp2_with fail
    refine (impl_LeavesOk _ xs _ (h.ext (by repeat (first | (with_reducible first | exact Ext.refl _ | assumption | apply Ext.alloc | apply Ext.drew | apply Ext.drewN | refine Ext.setCell ?_ ?_ _ | refine Ext.trans ?_ (by assumption)) | (show _ ≤ _; first | omega | (dsimp only; omega) | (simp; done) | (simp; omega))))) hf).mono ?_; rw [H1.out]; rintro e w1 ⟨rfl, x1⟩
    go_wp2
    go_ret
    exact ⟨ret_str R.out.symm, (by repeat (first | (with_reducible first | exact Ext.refl _ | assumption | apply Ext.alloc | apply Ext.drew | apply Ext.drewN | refine Ext.setCell ?_ ?_ _ | refine Ext.trans ?_ (by assumption)) | (show _ ≤ _; first | omega | (dsimp only; omega) | (simp; done) | (simp; omega))))⟩
  cases h2 : inB l 0 8
  · have R := Lib.hid (nodeH_no2 (xs := xs) (p := p) (wd := wd) h2)
    have H1 := Lib.hid h1
    have H2 := Lib.hid h2
    clear h1 h2
    go_enter Tryd.func20, Tryd.ntmps20
    go_wp2_with fail
    refine (impl_LeavesOk _ xs _ (h.ext (by repeat (first | (with_reducible first | exact Ext.refl _ | assumption | apply Ext.alloc | apply Ext.drew | apply Ext.drewN | refine Ext.setCell ?_ ?_ _ | refine Ext.trans ?_ (by assumption)) | (show _ ≤ _; first | omega | (dsimp only; omega) | (simp; done) | (simp; omega))))) hf).mono ?_; rw [H1.out]; rintro e w1 ⟨rfl, x1⟩
    go_wp2_with fail
    refine (impl_in _ _ _ _).mono ?_; rw [H2.out]; rintro e w' ⟨rfl, rfl⟩
    go_wp2
    go_ret
    exact ⟨ret_str R.out.symm, (by repeat (first | (with_reducible first | exact Ext.refl _ | assumption | apply Ext.alloc | apply Ext.drew | apply Ext.drewN | refine Ext.setCell ?_ ?_ _ | refine Ext.trans ?_ (by assumption)) | (show _ ≤ _; first | omega | (dsimp only; omega) | (simp; done) | (simp; omega))))⟩
  obtain ⟨b1, b2⟩ := inB_true.1 h2
  obtain ⟨k, rfl⟩ := Int.eq_ofNat_of_zero_le b1
  have hk8 : k ≤ 8 := by omega
  obtain ⟨k1, k2⟩ := pow_bd hk8
  have hw1 : IntKind.i64.wrap (2 ^ k) = 2 ^ k := IntWalk.i64_in _ (by omega)
  have hw2 : IntKind.i64.wrap (2 ^ k - 1) = 2 ^ k - 1 := IntWalk.i64_in _ (by omega)
  cases h3 : inB p 0 (2 ^ ((k : Int)).toNat - 1)
  · have R := Lib.hid (nodeH_no3 (xs := xs) (l := (k : Int)) (wd := wd) h3)
    rw [Int.toNat_natCast] at h3
    have H1 := Lib.hid h1
    have H2 := Lib.hid h2
    have H3 := Lib.hid h3
    clear h1 h2 h3
    go_enter Tryd.func20, Tryd.ntmps20
    go_wp2_with fail
    refine (impl_LeavesOk _ xs _ (h.ext (by repeat (first | (with_reducible first | exact Ext.refl _ | assumption | apply Ext.alloc | apply Ext.drew | apply Ext.drewN | refine Ext.setCell ?_ ?_ _ | refine Ext.trans ?_ (by assumption)) | (show _ ≤ _; first | omega | (dsimp only; omega) | (simp; done) | (simp; omega))))) hf).mono ?_; rw [H1.out]; rintro e w1 ⟨rfl, x1⟩
    go_wp2_with fail
    refine (impl_in _ _ _ _).mono ?_; rw [H2.out]; rintro e w' ⟨rfl, rfl⟩
    go_wp2_with fail
    refine (impl_in _ _ _ _).mono ?_; rw [H3.out]; rintro e w' ⟨rfl, rfl⟩
    go_wp2
    go_ret
    exact ⟨ret_str R.out.symm, (by repeat (first | (with_reducible first | exact Ext.refl _ | assumption | apply Ext.alloc | apply Ext.drew | apply Ext.drewN | refine Ext.setCell ?_ ?_ _ | refine Ext.trans ?_ (by assumption)) | (show _ ≤ _; first | omega | (dsimp only; omega) | (simp; done) | (simp; omega))))⟩
  cases h4 : inB wd 1 32
  · have R := Lib.hid (nodeH_no4 (xs := xs) (l := (k : Int)) (p := p) h4)
    obtain ⟨c1, c2⟩ := inB_true.1 h3
    rw [Int.toNat_natCast] at c2 h3
    have hp2 : ¬ p < 0 := by omega
    have hq2 : ¬ 2 ^ k ≤ p := by omega
    have H1 := Lib.hid h1
    have H2 := Lib.hid h2
    have H3 := Lib.hid h3
    have H4 := Lib.hid h4
    clear h1 h2 h3 h4
    go_enter Tryd.func20, Tryd.ntmps20
    go_wp2_with fail
    refine (impl_LeavesOk _ xs _ (h.ext (by repeat (first | (with_reducible first | exact Ext.refl _ | assumption | apply Ext.alloc | apply Ext.drew | apply Ext.drewN | refine Ext.setCell ?_ ?_ _ | refine Ext.trans ?_ (by assumption)) | (show _ ≤ _; first | omega | (dsimp only; omega) | (simp; done) | (simp; omega))))) hf).mono ?_; rw [H1.out]; rintro e w1 ⟨rfl, x1⟩
    go_wp2_with fail
    refine (impl_in _ _ _ _).mono ?_; rw [H2.out]; rintro e w' ⟨rfl, rfl⟩
    go_wp2_with fail
    refine (impl_in _ _ _ _).mono ?_; rw [H3.out]; rintro e w' ⟨rfl, rfl⟩
    go_wp2_with fail
    refine (impl_isWide _ _).mono ?_; rw [H4.out]; rintro e w' ⟨rfl, rfl⟩
    go_wp2
    go_ret
    exact ⟨ret_str R.out.symm, (by repeat (first | (with_reducible first | exact Ext.refl _ | assumption | apply Ext.alloc | apply Ext.drew | apply Ext.drewN | refine Ext.setCell ?_ ?_ _ | refine Ext.trans ?_ (by assumption)) | (show _ ≤ _; first | omega | (dsimp only; omega) | (simp; done) | (simp; omega))))⟩
  have R := Lib.hid (show nodeH xs k p wd = nodeT xs wd (8 - k) p by rw [nodeH_yes h1 h2 h3 h4]; congr 1; omega)
  obtain ⟨c1, c2⟩ := inB_true.1 h3
  rw [Int.toNat_natCast] at c2 h3
  have hp2 : ¬ p < 0 := by omega
  have hq2 : ¬ 2 ^ k ≤ p := by omega
  have H1 := Lib.hid h1
  have H2 := Lib.hid h2
  have H3 := Lib.hid h3
  have H4 := Lib.hid h4
  have HL := Lib.hid (show (k : Int) = 8 - ((8 - k : Nat) : Int) by omega)
  have HP := Lib.hid (show 0 ≤ p ∧ p < 2 ^ (8 - (8 - k)) by rw [show 8 - (8 - k) = k by omega]; omega)
  have hx24 := (leavesOk_small h1).1
  have hnm := names_ok h1
  clear h1 h2 h3 h4
  go_enter Tryd.func20, Tryd.ntmps20
  go_wp2_with fail
  refine (impl_LeavesOk _ xs _ (h.ext (by repeat (first | (with_reducible first | exact Ext.refl _ | assumption | apply Ext.alloc | apply Ext.drew | apply Ext.drewN | refine Ext.setCell ?_ ?_ _ | refine Ext.trans ?_ (by assumption)) | (show _ ≤ _; first | omega | (dsimp only; omega) | (simp; done) | (simp; omega))))) hf).mono ?_; rw [H1.out]; rintro e w1 ⟨rfl, x1⟩
  go_wp2_with fail
  refine (impl_in _ _ _ _).mono ?_; rw [H2.out]; rintro e w' ⟨rfl, rfl⟩
  go_wp2_with fail
  refine (impl_in _ _ _ _).mono ?_; rw [H3.out]; rintro e w' ⟨rfl, rfl⟩
  go_wp2_with fail
  refine (impl_isWide _ _).mono ?_; rw [H4.out]; rintro e w' ⟨rfl, rfl⟩
  go_wp2_with fail
  refine (impl_newGrove _ xs wd _ (h.ext (by repeat (first | (with_reducible first | exact Ext.refl _ | assumption | apply Ext.alloc | apply Ext.drew | apply Ext.drewN | refine Ext.setCell ?_ ?_ _ | refine Ext.trans ?_ (by assumption)) | (show _ ≤ _; first | omega | (dsimp only; omega) | (simp; done) | (simp; omega))))) hnm (by omega) (by exact HT.out.ext (by repeat (first | (with_reducible first | exact Ext.refl _ | assumption | apply Ext.alloc | apply Ext.drew | apply Ext.drewN | refine Ext.setCell ?_ ?_ _ | refine Ext.trans ?_ (by assumption)) | (show _ ≤ _; first | omega | (dsimp only; omega) | (simp; done) | (simp; omega)))))).mono ?_
  rintro e w2 ⟨a2, c2, rfl, r2, x2⟩
  go_wp2_with fail
  refine (impl_node xs wd H1.out (8 - k) k p _ _ _ HL.out (by omega) HP.out (h.ext (by repeat (first | (with_reducible first | exact Ext.refl _ | assumption | apply Ext.alloc | apply Ext.drew | apply Ext.drewN | refine Ext.setCell ?_ ?_ _ | refine Ext.trans ?_ (by assumption)) | (show _ ≤ _; first | omega | (dsimp only; omega) | (simp; done) | (simp; omega))))) r2 (by exact HT.out.ext (by repeat (first | (with_reducible first | exact Ext.refl _ | assumption | apply Ext.alloc | apply Ext.drew | apply Ext.drewN | refine Ext.setCell ?_ ?_ _ | refine Ext.trans ?_ (by assumption)) | (show _ ≤ _; first | omega | (dsimp only; omega) | (simp; done) | (simp; omega)))))).mono ?_
  rintro e w3 ⟨rfl, x3⟩
  go_wp2
  go_ret
  exact ⟨ret_str R.out.symm, (by repeat (first | (with_reducible first | exact Ext.refl _ | assumption | apply Ext.alloc | apply Ext.drew | apply Ext.drewN | refine Ext.setCell ?_ ?_ _ | refine Ext.trans ?_ (by assumption)) | (show _ ≤ _; first | omega | (dsimp only; omega) | (simp; done) | (simp; omega))))⟩

theorem emL9 {w : World} {a : Option Addr} {c : Nat} {wd : Int} (h : Strs w (.slice a 9 c) (emL wd 8)) : Strs w (.slice a 9 c) (emL wd 8) := h
set_option maxRecDepth 100000 in
set_option maxHeartbeats 1600000 in
theorem spec_NodeHash (v : Value) (xs : List Leaf) (l p wd : Int) (w : World) (h : Lvs w v xs) (hf : LeafFit xs) :
    Calls Tryd.prog 26 #[v, .int .i64 l, .int .i64 p, .int .i64 wd] w fun e w' => e = .returned (.string (nodeH xs l p wd)) ∧ Ext w w' := by
  obtain ⟨a, c, rfl⟩ := h.form
  cases h1 : leavesOk xs
  · have R := Lib.hid (nodeH_no1 (l := l) (p := p) (wd := wd) h1)
    have H1 := Lib.hid h1
    clear h1
    go_enter Tryd.func26, Tryd.ntmps26
    go_wp2_with fail
    refine (spec_LeavesOk _ xs _ (h.ext (by repeat (first | (with_reducible first | exact Ext.refl _ | assumption | apply Ext.alloc | apply Ext.drew | apply Ext.drewN | refine Ext.setCell ?_ ?_ _ | refine Ext.trans ?_ (by assumption)) | (show _ ≤ _; first | omega | (dsimp only; omega) | (simp; done) | (simp; omega))))) hf).mono ?_; rw [H1.out]; rintro e w1 ⟨rfl, x1⟩
    go_wp2
    go_ret
    exact ⟨ret_str R.out.symm, (by repeat (first | (with_reducible first | exact Ext.refl _ | assumption | apply Ext.alloc | apply Ext.drew | apply Ext.drewN | refine Ext.setCell ?_ ?_ _ | refine Ext.trans ?_ (by assumption)) | (show _ ≤ _; first | omega | (dsimp only; omega) | (simp; done) | (simp; omega))))⟩
  cases h2 : inB l 0 8
  · have R := Lib.hid (nodeH_no2 (xs := xs) (p := p) (wd := wd) h2)
    have H1 := Lib.hid h1
    have H2 := Lib.hid h2
    clear h1 h2
    go_enter Tryd.func26, Tryd.ntmps26
    go_wp2_with fail
    refine (spec_LeavesOk _ xs _ (h.ext (by repeat (first | (with_reducible first | exact Ext.refl _ | assumption | apply Ext.alloc | apply Ext.drew | apply Ext.drewN | refine Ext.setCell ?_ ?_ _ | refine Ext.trans ?_ (by assumption)) | (show _ ≤ _; first | omega | (dsimp only; omega) | (simp; done) | (simp; omega))))) hf).mono ?_; rw [H1.out]; rintro e w1 ⟨rfl, x1⟩
    go_wp2_with fail
    refine (spec_l01In _ _ _ _).mono ?_; rw [H2.out]; rintro e w' ⟨rfl, rfl⟩
    go_wp2
    go_ret
    exact ⟨ret_str R.out.symm, (by repeat (first | (with_reducible first | exact Ext.refl _ | assumption | apply Ext.alloc | apply Ext.drew | apply Ext.drewN | refine Ext.setCell ?_ ?_ _ | refine Ext.trans ?_ (by assumption)) | (show _ ≤ _; first | omega | (dsimp only; omega) | (simp; done) | (simp; omega))))⟩
  obtain ⟨b1, b2⟩ := inB_true.1 h2
  obtain ⟨k, rfl⟩ := Int.eq_ofNat_of_zero_le b1
  have hk8 : k ≤ 8 := by omega
  obtain ⟨k1, k2⟩ := pow_bd hk8
  have hw1 : IntKind.i64.wrap (2 ^ k) = 2 ^ k := IntWalk.i64_in _ (by omega)
  have hw2 : IntKind.i64.wrap (2 ^ k - 1) = 2 ^ k - 1 := IntWalk.i64_in _ (by omega)
  cases h3 : inB p 0 (2 ^ ((k : Int)).toNat - 1)
  · have R := Lib.hid (nodeH_no3 (xs := xs) (l := (k : Int)) (wd := wd) h3)
    rw [Int.toNat_natCast] at h3
    have hcase : p < 0 ∨ (0 ≤ p ∧ 2 ^ k ≤ p) := by
      have h5 := inB_false.1 h3
      omega
    have H1 := Lib.hid h1
    have H2 := Lib.hid h2
    clear h1 h2 h3
    rcases hcase with hp | ⟨hp, hq⟩
    · go_enter Tryd.func26, Tryd.ntmps26
      go_wp2_with fail
      refine (spec_LeavesOk _ xs _ (h.ext (by repeat (first | (with_reducible first | exact Ext.refl _ | assumption | apply Ext.alloc | apply Ext.drew | apply Ext.drewN | refine Ext.setCell ?_ ?_ _ | refine Ext.trans ?_ (by assumption)) | (show _ ≤ _; first | omega | (dsimp only; omega) | (simp; done) | (simp; omega))))) hf).mono ?_; rw [H1.out]; rintro e w1 ⟨rfl, x1⟩
      go_wp2_with fail
      refine (spec_l01In _ _ _ _).mono ?_; rw [H2.out]; rintro e w' ⟨rfl, rfl⟩
      go_wp2
      go_ret
      exact ⟨ret_str R.out.symm, (by repeat (first | (with_reducible first | exact Ext.refl _ | assumption | apply Ext.alloc | apply Ext.drew | apply Ext.drewN | refine Ext.setCell ?_ ?_ _ | refine Ext.trans ?_ (by assumption)) | (show _ ≤ _; first | omega | (dsimp only; omega) | (simp; done) | (simp; omega))))⟩
    · have hp2 : ¬ p < 0 := by omega
      go_enter Tryd.func26, Tryd.ntmps26
      go_wp2_with fail
      refine (spec_LeavesOk _ xs _ (h.ext (by repeat (first | (with_reducible first | exact Ext.refl _ | assumption | apply Ext.alloc | apply Ext.drew | apply Ext.drewN | refine Ext.setCell ?_ ?_ _ | refine Ext.trans ?_ (by assumption)) | (show _ ≤ _; first | omega | (dsimp only; omega) | (simp; done) | (simp; omega))))) hf).mono ?_; rw [H1.out]; rintro e w1 ⟨rfl, x1⟩
      go_wp2_with fail
      refine (spec_l01In _ _ _ _).mono ?_; rw [H2.out]; rintro e w' ⟨rfl, rfl⟩
      go_wp2
      go_ret
      exact ⟨ret_str R.out.symm, (by repeat (first | (with_reducible first | exact Ext.refl _ | assumption | apply Ext.alloc | apply Ext.drew | apply Ext.drewN | refine Ext.setCell ?_ ?_ _ | refine Ext.trans ?_ (by assumption)) | (show _ ≤ _; first | omega | (dsimp only; omega) | (simp; done) | (simp; omega))))⟩
  cases h4 : inB wd 1 32
  · have R := Lib.hid (nodeH_no4 (xs := xs) (l := (k : Int)) (p := p) h4)
    obtain ⟨c1, c2⟩ := inB_true.1 h3
    rw [Int.toNat_natCast] at c2 h3
    have hp2 : ¬ p < 0 := by omega
    have hq2 : ¬ 2 ^ k ≤ p := by omega
    have H1 := Lib.hid h1
    have H2 := Lib.hid h2
    have H3 := Lib.hid h3
    have H4 := Lib.hid h4
    clear h1 h2 h3 h4
    go_enter Tryd.func26, Tryd.ntmps26
    go_wp2_with fail
    refine (spec_LeavesOk _ xs _ (h.ext (by repeat (first | (with_reducible first | exact Ext.refl _ | assumption | apply Ext.alloc | apply Ext.drew | apply Ext.drewN | refine Ext.setCell ?_ ?_ _ | refine Ext.trans ?_ (by assumption)) | (show _ ≤ _; first | omega | (dsimp only; omega) | (simp; done) | (simp; omega))))) hf).mono ?_; rw [H1.out]; rintro e w1 ⟨rfl, x1⟩
    go_wp2_with fail
    refine (spec_l01In _ _ _ _).mono ?_; rw [H2.out]; rintro e w' ⟨rfl, rfl⟩
    go_wp2_with fail
    refine (spec_l01In _ _ _ _).mono ?_; rw [H4.out]; rintro e w' ⟨rfl, rfl⟩
    go_wp2
    go_ret
    exact ⟨ret_str R.out.symm, (by repeat (first | (with_reducible first | exact Ext.refl _ | assumption | apply Ext.alloc | apply Ext.drew | apply Ext.drewN | refine Ext.setCell ?_ ?_ _ | refine Ext.trans ?_ (by assumption)) | (show _ ≤ _; first | omega | (dsimp only; omega) | (simp; done) | (simp; omega))))⟩
  have R := Lib.hid (show nodeH xs k p wd = nodeT xs wd (8 - k) p by rw [nodeH_yes h1 h2 h3 h4]; congr 1; omega)
  obtain ⟨c1, c2⟩ := inB_true.1 h3
  rw [Int.toNat_natCast] at c2 h3
  have hp2 : ¬ p < 0 := by omega
  have hq2 : ¬ 2 ^ k ≤ p := by omega
  have H1 := Lib.hid h1
  have H2 := Lib.hid h2
  have H3 := Lib.hid h3
  have H4 := Lib.hid h4
  have HL := Lib.hid (show (k : Int) = 8 - ((8 - k : Nat) : Int) by omega)
  have HP := Lib.hid (show 0 ≤ p ∧ p < 2 ^ (8 - (8 - k)) by rw [show 8 - (8 - k) = k by omega]; omega)
  have hx24 := (leavesOk_small h1).1
  have hnm := names_ok h1
  clear h1 h2 h3 h4
  go_enter Tryd.func26, Tryd.ntmps26
  go_wp2_with fail
  refine (spec_LeavesOk _ xs _ (h.ext (by repeat (first | (with_reducible first | exact Ext.refl _ | assumption | apply Ext.alloc | apply Ext.drew | apply Ext.drewN | refine Ext.setCell ?_ ?_ _ | refine Ext.trans ?_ (by assumption)) | (show _ ≤ _; first | omega | (dsimp only; omega) | (simp; done) | (simp; omega))))) hf).mono ?_; rw [H1.out]; rintro e w1 ⟨rfl, x1⟩
  go_wp2_with fail
  refine (spec_l01In _ _ _ _).mono ?_; rw [H2.out]; rintro e w' ⟨rfl, rfl⟩
  go_wp2_with fail
  refine (spec_l01In _ _ _ _).mono ?_; rw [H4.out]; rintro e w' ⟨rfl, rfl⟩
  go_wp2_with fail
  refine (spec_l10Spots _ xs _ (h.ext (by repeat (first | (with_reducible first | exact Ext.refl _ | assumption | apply Ext.alloc | apply Ext.drew | apply Ext.drewN | refine Ext.setCell ?_ ?_ _ | refine Ext.trans ?_ (by assumption)) | (show _ ≤ _; first | omega | (dsimp only; omega) | (simp; done) | (simp; omega))))) hnm (by omega)).mono ?_
  rintro e w2 ⟨a2, c2, rfl, r2, x2⟩
  go_wp2_with fail
  refine (spec_l10Empties wd _).mono ?_
  rintro e w3 ⟨a3, c3, rfl, o3, x3⟩
  have s3 := o3.strs
  clear o3
  go_wp2_with fail
  refine (spec_node wd (8 - k) xs k p _ _ _ H1.out HL.out (by omega) HP.out (r2.ext (by repeat (first | (with_reducible first | exact Ext.refl _ | assumption | apply Ext.alloc | apply Ext.drew | apply Ext.drewN | refine Ext.setCell ?_ ?_ _ | refine Ext.trans ?_ (by assumption)) | (show _ ≤ _; first | omega | (dsimp only; omega) | (simp; done) | (simp; omega))))) (emL9 s3)).mono ?_
  rintro e w4 ⟨rfl, x4⟩
  go_wp2
  go_ret
  exact ⟨ret_str R.out.symm, (by repeat (first | (with_reducible first | exact Ext.refl _ | assumption | apply Ext.alloc | apply Ext.drew | apply Ext.drewN | refine Ext.setCell ?_ ?_ _ | refine Ext.trans ?_ (by assumption)) | (show _ ≤ _; first | omega | (dsimp only; omega) | (simp; done) | (simp; omega))))⟩

def shRoot (xs : List Leaf) (k s wd : Int) : ByteArray := if inB k 0 2 = true then nodeH xs k s wd else ⟨#[]⟩
theorem shRoot_no {xs : List Leaf} {k s wd : Int} (h : inB k 0 2 = false) : shRoot xs k s wd = ⟨#[]⟩ := by rw [shRoot, if_neg (by rw [h]; decide)]
theorem shRoot_yes {xs : List Leaf} {k s wd : Int} (h : inB k 0 2 = true) : shRoot xs k s wd = nodeH xs k s wd := by rw [shRoot, if_pos h]
theorem impl_ShardRoot (v : Value) (xs : List Leaf) (k s wd : Int) (w : World) (h : Lvs w v xs) (hf : LeafFit xs) (hT : Tabs w) :
    Calls Tryd.prog 9 #[v, .int .i64 k, .int .i64 s, .int .i64 wd] w fun e w' => e = .returned (.string (shRoot xs k s wd)) ∧ Ext w w' := by
  have HT := Lib.hid hT
  clear hT
  obtain ⟨a, c, rfl⟩ := h.form
  cases hk : inB k 0 2
  · have R := Lib.hid (shRoot_no (xs := xs) (s := s) (wd := wd) hk)
    have K := Lib.hid hk
    clear hk
    go_enter Tryd.func9, Tryd.ntmps9
    go_wp2_with fail
    refine (impl_isSplit _ _).mono ?_; rw [K.out]; rintro e w' ⟨rfl, rfl⟩
    go_wp2
    go_ret
    exact ⟨ret_str R.out.symm, (by repeat (first | (with_reducible first | exact Ext.refl _ | assumption | apply Ext.alloc | apply Ext.drew | apply Ext.drewN | refine Ext.setCell ?_ ?_ _ | refine Ext.trans ?_ (by assumption)) | (show _ ≤ _; first | omega | (dsimp only; omega) | (simp; done) | (simp; omega))))⟩
  · have R := Lib.hid (shRoot_yes (xs := xs) (s := s) (wd := wd) hk)
    have K := Lib.hid hk
    clear hk
    go_enter Tryd.func9, Tryd.ntmps9
    go_wp2_with fail
    refine (impl_isSplit _ _).mono ?_; rw [K.out]; rintro e w' ⟨rfl, rfl⟩
    go_wp2_with fail
    refine (impl_NodeHash _ xs k s wd _ (h.ext (by repeat (first | (with_reducible first | exact Ext.refl _ | assumption | apply Ext.alloc | apply Ext.drew | apply Ext.drewN | refine Ext.setCell ?_ ?_ _ | refine Ext.trans ?_ (by assumption)) | (show _ ≤ _; first | omega | (dsimp only; omega) | (simp; done) | (simp; omega))))) hf (by exact HT.out.ext (by repeat (first | (with_reducible first | exact Ext.refl _ | assumption | apply Ext.alloc | apply Ext.drew | apply Ext.drewN | refine Ext.setCell ?_ ?_ _ | refine Ext.trans ?_ (by assumption)) | (show _ ≤ _; first | omega | (dsimp only; omega) | (simp; done) | (simp; omega)))))).mono ?_
    rintro e w1 ⟨rfl, x1⟩
    go_wp2
    go_ret
    exact ⟨ret_str R.out.symm, (by repeat (first | (with_reducible first | exact Ext.refl _ | assumption | apply Ext.alloc | apply Ext.drew | apply Ext.drewN | refine Ext.setCell ?_ ?_ _ | refine Ext.trans ?_ (by assumption)) | (show _ ≤ _; first | omega | (dsimp only; omega) | (simp; done) | (simp; omega))))⟩
theorem spec_RootOf (v : Value) (xs : List Leaf) (wd : Int) (w : World) (h : Lvs w v xs) (hf : LeafFit xs) :
    Calls Tryd.prog 13 #[v, .int .i64 wd] w fun e w' => e = .returned (.string (nodeH xs 0 0 wd)) ∧ Ext w w' := by
  obtain ⟨a, c, rfl⟩ := h.form
  go_enter Tryd.func13, Tryd.ntmps13
  go_wp2_with fail
  refine (spec_NodeHash _ xs 0 0 wd _ (h.ext (by repeat (first | (with_reducible first | exact Ext.refl _ | assumption | apply Ext.alloc | apply Ext.drew | apply Ext.drewN | refine Ext.setCell ?_ ?_ _ | refine Ext.trans ?_ (by assumption)) | (show _ ≤ _; first | omega | (dsimp only; omega) | (simp; done) | (simp; omega))))) hf).mono ?_
  rintro e w1 ⟨rfl, x1⟩
  go_wp2
  go_ret
  exact ⟨rfl, (by repeat (first | (with_reducible first | exact Ext.refl _ | assumption | apply Ext.alloc | apply Ext.drew | apply Ext.drewN | refine Ext.setCell ?_ ?_ _ | refine Ext.trans ?_ (by assumption)) | (show _ ≤ _; first | omega | (dsimp only; omega) | (simp; done) | (simp; omega))))⟩
def bsdN (s : Nat) : Nat := if s % 2 = 0 then s + 1 else s - 1
theorem bsd_lt {s p : Nat} (h : s < p * 2) : bsdN s < p * 2 := by unfold bsdN; split <;> omega
theorem bsd_all : ∀ s : Fin 256, bits .xor .i64 ((s.val : Nat) : Int) 1 = (bsdN s.val : Int) := by decide +kernel
/-- the place beside that of an index, j levels above the buckets -/
def besT (i : Int) (j : Nat) : Int := bits .xor .i64 (i / 2 ^ j) 1
theorem besT_bd {i : Int} {j : Nat} (hi : 0 ≤ i ∧ i ≤ 255) (hj : j < 8) : 0 ≤ besT i j ∧ besT i j < 2 ^ (8 - j) := by
  obtain ⟨m, rfl⟩ := Int.eq_ofNat_of_zero_le hi.1
  have e : ((m : Int) / 2 ^ j) = ((m / 2 ^ j : Nat) : Int) := by push_cast; rfl
  have h1 : m / 2 ^ j < 2 ^ (8 - j) := by
    rw [Nat.div_lt_iff_lt_mul (Nat.pow_pos (by decide)), ← Nat.pow_add, show 8 - j + j = 8 by omega]
    have : (2 : Nat) ^ 8 = 256 := by decide
    omega
  have h2 : m / 2 ^ j < 256 := Nat.lt_of_le_of_lt (Nat.div_le_self _ _) (by omega)
  have hb := bsd_all ⟨m / 2 ^ j, h2⟩
  dsimp only at hb
  rw [besT, e, hb]
  have h3 : bsdN (m / 2 ^ j) < 2 ^ (8 - j) := by
    rw [show 8 - j = (7 - j) + 1 by omega, Nat.pow_succ] at h1 ⊢
    exact bsd_lt h1
  have h4 : ((2 ^ (8 - j) : Nat) : Int) = 2 ^ (8 - j) := by push_cast; rfl
  omega
/-- the first n hashes beside -/
def sdL (xs : List Leaf) (i wd : Int) (n : Nat) : List ByteArray := (List.range n).map fun j => nodeT xs wd j (besT i j)
theorem sdL_len (xs : List Leaf) (i wd : Int) (n : Nat) : (sdL xs i wd n).length = n := by simp [sdL]
theorem sdL_succ (xs : List Leaf) (i wd : Int) (n : Nat) : sdL xs i wd (n + 1) = sdL xs i wd n ++ [nodeT xs wd n (besT i n)] := by simp [sdL, List.range_succ]
def sdOk (xs : List Leaf) (i l wd : Int) : Bool := leavesOk xs && (inB i 0 255 && (inB l 0 8 && inB wd 1 32))
def sdF (xs : List Leaf) (i l wd : Int) : List ByteArray := if sdOk xs i l wd = true then sdL xs i wd (8 - l).toNat else []
theorem sdF_no1 {xs : List Leaf} {i l wd : Int} (h : leavesOk xs = false) : sdF xs i l wd = [] := by rw [sdF, sdOk, h]; rfl
theorem sdF_no2 {xs : List Leaf} {i l wd : Int} (h : inB i 0 255 = false) : sdF xs i l wd = [] := by rw [sdF, sdOk, h]; simp
theorem sdF_no3 {xs : List Leaf} {i l wd : Int} (h : inB l 0 8 = false) : sdF xs i l wd = [] := by rw [sdF, sdOk, h]; simp
theorem sdF_no4 {xs : List Leaf} {i l wd : Int} (h : inB wd 1 32 = false) : sdF xs i l wd = [] := by rw [sdF, sdOk, h]; simp
theorem sdF_yes {xs : List Leaf} {i l wd : Int} (h1 : leavesOk xs = true) (h2 : inB i 0 255 = true) (h3 : inB l 0 8 = true) (h4 : inB wd 1 32 = true) : sdF xs i l wd = sdL xs i wd (8 - l).toNat := by
  rw [sdF, sdOk, h1, h2, h3, h4]; rfl
theorem sdF_len (xs : List Leaf) (i l wd : Int) : (sdF xs i l wd).length ≤ 8 := by
  unfold sdF
  split
  · rename_i h
    simp only [sdOk, Bool.and_eq_true] at h
    have := inB_true.1 h.2.2.1
    rw [sdL_len]
    omega
  · exact Nat.zero_le _

set_option maxRecDepth 100000 in
set_option maxHeartbeats 3200000 in
theorem spec_l10SpotsO (v : Value) (xs : List Leaf) (w : World) (h : Lvs w v xs) (hn : NamesFit xs) (hb : xs.length ≤ 1000) :
    Calls Tryd.prog 46 #[v] w fun e w' => ∃ a c, e = .returned (.slice a xs.length c) ∧ w'.ownsRow w.heap.size 97 3 (.slice a xs.length c) xs.length (xs.flatMap spotC) ∧ Ext w w' := by
  obtain ⟨i0, hi, hz0, hz1, hz2⟩ := info_parts infoSpot
  obtain ⟨-, a1, c1, rfl, hc1, hm1, g1⟩ := h
  unfold maxLen at hm1
  have HN := Lib.hid hn
  clear hn
  go_enter Tryd.func46, Tryd.ntmps46
  go_wp2
  go_loopw [3, 4] (fun v i wr => ∃ j : Nat, j ≤ xs.length ∧ i = .int .i64 j ∧ wr.ownsRow w.heap.size 97 3 v j ((xs.take j).flatMap spotC) ∧ Ext w wr) (fun _ i _ => xs.length - (intOf i).toNat)
  case atStart => exact ⟨0, Nat.zero_le _, rfl, World.ownsRow_lit w #[] 0 (Nat.le_refl _) (Nat.zero_le _) rfl, (by repeat (first | (with_reducible first | exact Ext.refl _ | assumption | apply Ext.alloc | apply Ext.drew | apply Ext.drewN | refine Ext.setCell ?_ ?_ _ | refine Ext.trans ?_ (by assumption)) | (show _ ≤ _; first | omega | (dsimp only; omega) | (simp; done) | (simp; omega))))⟩
  case round =>
    obtain ⟨j, hj, rfl, hown, hx⟩ := hrel
    obtain ⟨a, c, rfl⟩ := own_any hown
    have hsz := hx.size
    by_cases hlt : j < xs.length
    · rcases g1 with g1 | ⟨b1, o1, rfl, hb1, g1⟩
      · omega
      have f1 := Lib.hid (g1 _ _ (leaf_c0 xs j hlt))
      have f2 := Lib.hid (g1 _ _ (leaf_c1 xs j hlt))
      have e1 : wr.cell? ⟨b1, o1 + j * 2, none⟩ = some (.string xs[j].name) := (hx.cell b1 _ hb1).trans f1.out
      have e2 : wr.cell? ⟨b1, o1 + j * 2 + 1, none⟩ = some (.string xs[j].value) := (hx.cell b1 _ hb1).trans f2.out
      have l1 : b1 < wr.heap.size := Nat.lt_of_lt_of_le hb1 hsz
      have hnm := HN.out xs[j] (List.getElem_mem hlt)
      have HU := Lib.hid (take_flat_succ spotC xs j hlt)
      have HO := Lib.hid hown
      have hi0 : (0 : Int) ≤ (j : Int) := by omega
      have hi1 : (j : Int) < (xs.length : Int) := by omega
      clear g1 hown
      generalize xs[j] = z at *
      go_wp2_with fail
      go_region_held3 (fun W => W.cell? ⟨b1, o1 + j * 2, none⟩ = some (.string z.name) ∧ W.cell? ⟨b1, o1 + j * 2 + 1, none⟩ = some (.string z.value)) (first | exact ⟨e1, e2⟩ | exact ⟨d1, d2⟩ | exact ⟨cell_new1 d1 l2, cell_new1 d2 l2⟩ | exact ⟨(y9.cell b1 _ hb1).trans f1.out, (y9.cell b1 _ hb1).trans f2.out⟩) (first | (go_at_call 72; refine (spec_IndexOf z.name _ hnm).mono ?_; rintro e w1 ⟨rfl, x1⟩; have y1 : Ext wr w1 := (by repeat (first | (with_reducible first | exact Ext.refl _ | assumption | apply Ext.alloc | apply Ext.drew | apply Ext.drewN | refine Ext.setCell ?_ ?_ _ | refine Ext.trans ?_ (by assumption)) | (show _ ≤ _; first | omega | (dsimp only; omega) | (simp; done) | (simp; omega)))); have l2 := Nat.lt_of_lt_of_le l1 y1.size; have z1 := y1.size; have d1 := (y1.cell _ _ l1).trans e1; have d2 := (y1.cell _ _ l1).trans e2) | (refine step_append_lies _ rfl (.tmp 12) (.tmp 24) 79 (by rfl) w.heap.size 97 i0 (.agg #[.string ⟨#[]⟩, .string ⟨#[]⟩, .int .i64 0]) 3 40 Tryd.underlying79 hi hz0 hz1 hz2 rfl (by decide) _ _ _ (by rfl) (own_alloc (own_ext HO.out y1) _) ⟨w1.heap.size, 0, none⟩ 1 1 (spotC z) (by rfl) rfl (World.news_of_block (heap_alloc_new w1 (Obj.cells #[Value.string z.name, Value.string z.value, Value.int .i64 (idxT z.name)] 97))) (spot_one z) (by decide) (by unfold maxLen; omega) (by omega) (by simp; omega) _ rfl ?_; intro g cap w9 hown9 hgrow _ _; have y9 : Ext w w9 := own_ext_of ((hx.trans y1).alloc _) (own_alloc (own_ext HO.out y1) _) hgrow (Nat.le_refl _); have HO9 := Lib.hid hown9; clear hown9 hgrow))
      all_goals
        go_wp2
        go_roundw
        case rel => exact ⟨j + 1, by omega, by go_num, by rw [HU.out]; exact HO9.out, y9⟩
        case measure => simp [intOf]; omega
    · obtain rfl : j = xs.length := by omega
      rw [List.take_length] at hown
      have HO := Lib.hid hown
      clear hown g1
      go_wp2
      go_ret
      exact ⟨_, _, rfl, HO.out, hx⟩

end Go.Proofs.YtckipgijfgeghaaDoor
