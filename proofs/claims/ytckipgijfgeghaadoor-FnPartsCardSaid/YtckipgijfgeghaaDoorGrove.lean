/- The leaves with their indexes: the program's, the reference's. -/
import Derived.Test.YtckipgijfgeghaaDoorNodeP
import Derived.Deep.RegionLaw
namespace Go.Proofs.YtckipgijfgeghaaDoor
open Go.RowKit

/-- a box of three cells -/
def Grv (W : World) (b : Nat) (x y z : Value) : Prop := b < W.heap.size ∧ W.cell? ⟨b, 0, none⟩ = some x ∧ W.cell? ⟨b, 1, none⟩ = some y ∧ W.cell? ⟨b, 2, none⟩ = some z ∧ ∀ j, W.frozen? ⟨b, j, none⟩ = false
theorem Grv.ext {W W' : World} {b : Nat} {x y z : Value} (h : Grv W b x y z) (hx : Ext W W') : Grv W' b x y z :=
  ⟨Nat.lt_of_lt_of_le h.1 hx.size, (hx.cell _ _ h.1).trans h.2.1, (hx.cell _ _ h.1).trans h.2.2.1, (hx.cell _ _ h.1).trans h.2.2.2.1, fun j => (hx.frozen _ _ h.1).trans (h.2.2.2.2 j)⟩
theorem Grv.grown {W W' : World} {b : Nat} {x y z : Value} (h : Grv W b x y z) {row : Option Nat} (hg : W.grownBy W' row) (hr : ∀ k, row = some k → b < k) : Grv W' b x y z := by
  have hne : ∀ o, some (⟨b, o, none⟩ : Addr).block ≠ row := fun o e => by have := hr b e.symm; omega
  exact ⟨Nat.lt_of_lt_of_le h.1 hg.size, (hg.cell_far _ h.1 (hne 0)).trans h.2.1, (hg.cell_far _ h.1 (hne 1)).trans h.2.2.1, (hg.cell_far _ h.1 (hne 2)).trans h.2.2.2.1, fun j => (hg.frozen_far _ h.1 (hne j)).trans (h.2.2.2.2 j)⟩
theorem Grv.set1 {W : World} {b : Nat} {x y z : Value} (h : Grv W b x y z) (u : Value) : Grv (W.setCell ⟨b, 1, none⟩ u) b x u z := by
  obtain ⟨h1, h2, h3, h4, h5⟩ := h
  exact ⟨by rw [World.size_setCell]; exact h1, by simp [go_sem, h2], by simp [go_sem, h3], by simp [go_sem, h4], fun j => by simp [go_sem, h5]⟩
theorem Grv.far {W : World} {b c : Nat} {x y z : Value} (h : Grv W b x y z) (hc : c ≠ b) (o : Nat) (u : Value) : Grv (W.setCell ⟨c, o, none⟩ u) b x y z := by
  obtain ⟨h1, h2, h3, h4, h5⟩ := h
  have hn : ∀ i, (⟨b, i, none⟩ : Addr) ≠ ⟨c, o, none⟩ := fun i e => hc (by injection e with e1; exact e1.symm)
  exact ⟨by rw [World.size_setCell]; exact h1, by rw [World.cell?_setCell_other _ _ _ _ (fun e => hn 0 e.symm)]; exact h2, by rw [World.cell?_setCell_other _ _ _ _ (fun e => hn 1 e.symm)]; exact h3, by rw [World.cell?_setCell_other _ _ _ _ (fun e => hn 2 e.symm)]; exact h4, fun j => by simp [go_sem, h5]⟩
theorem Grv.new (w : World) (x y z : Value) (t : TypeId) : Grv (w.alloc (Obj.cells #[x, y, z] t)) w.heap.size x y z :=
  ⟨by simp, by simp [go_sem], by simp [go_sem], by simp [go_sem], fun j => by simp [go_sem]⟩
/-- the indexes of leaves -/
def idxV (xs : List Leaf) (k : Nat) : List Value := (xs.take k).map fun l => .int .i64 (idxT l.name)
theorem idxV_len (xs : List Leaf) (k : Nat) (h : k ≤ xs.length) : (idxV xs k).length = k := by simp [idxV]; omega
theorem idxV_succ (xs : List Leaf) (k : Nat) (h : k < xs.length) : idxV xs (k + 1) = idxV xs k ++ [.int .i64 (idxT xs[k].name)] := by
  rw [idxV, List.take_succ_eq_append_getElem h, List.map_append]; rfl
theorem idxV_at (xs : List Leaf) (k : Nat) (h : k < xs.length) : (idxV xs xs.length)[k]? = some (.int .i64 (idxT xs[k].name)) := by
  simp [idxV, h]
theorem infoInt : (Tryd.prog.info? 3).map (fun i => (i.zero, i.size, i.bytes)) = some (some (.int .i64 0), 1, 8) := by kernel_rfl

set_option maxRecDepth 100000 in
set_option maxHeartbeats 1600000 in
theorem impl_newGrove (v : Value) (xs : List Leaf) (wd : Int) (w : World) (h : Lvs w v xs) (hn : NamesFit xs) (hb : xs.length ≤ 1000) (hT : Tabs w) :
    Calls Tryd.prog 33 #[v, .int .i64 wd] w fun e w' => ∃ a c, e = .returned (.agg #[v, .slice a xs.length c, .int .i64 wd]) ∧ Row w' 1 (.slice a xs.length c) xs.length (idxV xs xs.length) ∧ Ext w w' := by
  obtain ⟨i0, hi, hz0, hz1, hz2⟩ := info_parts infoInt
  obtain ⟨-, a1, c1, rfl, hc1, hm1, g1⟩ := h
  unfold maxLen at hm1
  have HT := Lib.hid hT
  have HN := Lib.hid hn
  clear hT hn
  go_enter Tryd.func33, Tryd.ntmps33
  go_wp2
  go_loopw [13] (fun i wr => ∃ (j : Nat) (u : Value), j ≤ xs.length ∧ i = .int .i64 j ∧ wr.ownsRow (w.heap.size + 2) 3 1 u j (idxV xs j) ∧ Grv wr (w.heap.size + 1) (.slice a1 xs.length c1) u (.int .i64 wd) ∧ Grv wr w.heap.size (.slice none 0 0) (.slice none 0 0) (.int .i64 0) ∧ Ext w wr) (fun i _ => xs.length - (intOf i).toNat)
  case atStart =>
    refine ⟨0, .slice none 0 0, Nat.zero_le _, rfl, World.ownsRow_nil _ _ _ _, ?_, (Grv.new w _ _ _ _).ext (by repeat (first | (with_reducible first | exact Ext.refl _ | assumption | apply Ext.alloc | apply Ext.drew | apply Ext.drewN | refine Ext.setCell ?_ ?_ _ | refine Ext.trans ?_ (by assumption)) | (show _ ≤ _; first | omega | (dsimp only; omega) | (simp; done) | (simp; omega)))), (by repeat (first | (with_reducible first | exact Ext.refl _ | assumption | apply Ext.alloc | apply Ext.drew | apply Ext.drewN | refine Ext.setCell ?_ ?_ _ | refine Ext.trans ?_ (by assumption)) | (show _ ≤ _; first | omega | (dsimp only; omega) | (simp; done) | (simp; omega))))⟩
    have e := Grv.new (w.alloc (Obj.cells #[.slice none 0 0, .slice none 0 0, .int .i64 0] 61)) (.slice a1 xs.length c1) (.slice none 0 0) (.int .i64 wd) 61
    rw [World.size_alloc] at e
    exact e
  case round =>
    obtain ⟨j, u, hj, rfl, own, hg, hr, hx⟩ := hrel
    obtain ⟨a, c, rfl⟩ := own_any own
    by_cases hlt : j < xs.length
    · rcases g1 with g1 | ⟨b1, o1, rfl, hb1, g1⟩
      · omega
      have e1 : wr.cell? ⟨b1, o1 + j * 2, none⟩ = some (.string xs[j].name) := (hx.cell b1 _ hb1).trans (g1 _ _ (leaf_c0 xs j hlt))
      have e2 : wr.cell? ⟨b1, o1 + j * 2 + 1, none⟩ = some (.string xs[j].value) := (hx.cell b1 _ hb1).trans (g1 _ _ (leaf_c1 xs j hlt))
      have hnm := HN.out xs[j] (List.getElem_mem hlt)
      have HU := Lib.hid (idxV_succ xs j hlt)
      have HO := Lib.hid own
      have HG := Lib.hid hg
      have HR := Lib.hid hr
      obtain ⟨l1, p0, p1, p2, pf⟩ := hg
      clear g1 own hr
      generalize xs[j] = z at *
      go_wp2_with fail
      have n0 : (wr.alloc (Obj.cells #[.string z.name, .string z.value] 34)).cell? ⟨wr.heap.size, 0, none⟩ = some (.string z.name) := by simp [go_sem]
      have y0 : Ext wr (wr.alloc (Obj.cells #[.string z.name, .string z.value] 34)) := (Ext.refl wr).alloc _
      have l0 : wr.heap.size < (wr.alloc (Obj.cells #[.string z.name, .string z.value] 34)).heap.size := by rw [World.size_alloc]; omega
      generalize wr.alloc (Obj.cells #[.string z.name, .string z.value] 34) = W0 at *
      have m1 := (y0.cell _ _ l1).trans p1
      have O0 := own_ext HO.out y0
      have lW : w.heap.size + 1 < W0.heap.size := Nat.lt_of_lt_of_le l1 y0.size
      have HO0 := Lib.hid O0
      clear O0 p0 p1 p2 pf e1 e2
      go_region_law (first | (refine step_append_lies _ rfl (.tmp 18) (.tmp 22) 26 (by rfl) (w.heap.size + 2) 3 i0 (.int .i64 0) 1 8 Tryd.underlying26 hi hz0 hz1 hz2 rfl (by decide) _ _ _ (by rfl) (own_alloc O2 _) ⟨w2.heap.size, 0, none⟩ 1 1 [.int .i64 (idxT z.name)] (by rfl) rfl (World.news_of_block (heap_alloc_new w2 (Obj.cells #[Value.int .i64 (idxT z.name)] 3))) (by intro u hu; simp at hu; rcases hu with rfl; rfl) (by decide) (by unfold maxLen; omega) (by omega) (by simp; omega) _ rfl ?_; intro g cap w9 hown9 hgrow _ _; have G9 := ((HG.out.ext (y0.trans y2)).ext ((Ext.refl w2).alloc (Obj.cells #[Value.int .i64 (idxT z.name)] 3))).grown hgrow (fun k hk => by have := (own_lt O2 k hk).1; omega); have R9 := ((HR.out.ext (y0.trans y2)).ext ((Ext.refl w2).alloc (Obj.cells #[Value.int .i64 (idxT z.name)] 3))).grown hgrow (fun k hk => by have := (own_lt O2 k hk).1; omega); have x9 : Ext w w9 := own_ext_of (((hx.trans y0).trans y2).alloc _) (own_alloc O2 _) hgrow (by omega); have HG9 := Lib.hid G9; have HR9 := Lib.hid R9; have HO9 := Lib.hid hown9; have c9 := G9.2.2.1; have f9 := G9.2.2.2.2 1; clear G9 R9 hown9 hgrow) | (go_simp; go_at_call 19; refine (impl_IndexOf z.name _ hnm (by exact HT.out.ext (by repeat (first | (with_reducible first | exact Ext.refl _ | assumption | apply Ext.alloc | apply Ext.drew | apply Ext.drewN | refine Ext.setCell ?_ ?_ _ | refine Ext.trans ?_ (by assumption)) | (show _ ≤ _; first | omega | (dsimp only; omega) | (simp; done) | (simp; omega)))))).mono ?_; rintro e w2 ⟨rfl, x2⟩; have y2 : Ext W0 w2 := (by repeat (first | (with_reducible first | exact Ext.refl _ | assumption | apply Ext.alloc | apply Ext.drew | apply Ext.drewN | refine Ext.setCell ?_ ?_ _ | refine Ext.trans ?_ (by assumption)) | (show _ ≤ _; first | omega | (dsimp only; omega) | (simp; done) | (simp; omega)))); have q1 := (y2.cell _ _ lW).trans m1; have n2 := (y2.cell _ _ l0).trans n0; have l2 := Nat.lt_of_lt_of_le lW y2.size; have O2 := own_ext HO0.out y2))
      all_goals
        go_wp2
        go_roundw
        case rel => exact ⟨j + 1, _, by omega, by go_num, by rw [HU.out]; exact own_below HO9.out (by dsimp only; omega), HG9.out.set1 _, HR9.out.far (by omega) _ _, x9.setCell (by dsimp only; omega) _⟩
        case measure => simp [intOf]; omega
    · obtain rfl : j = xs.length := by omega
      have HO := Lib.hid own
      have HR := Lib.hid hr
      obtain ⟨l1, p0, p1, p2, pf⟩ := hg
      obtain ⟨l2, r0, r1, r2, rf⟩ := hr
      clear own g1
      go_wp2
      refine bodyPost_ret (v := .agg #[.slice a1 xs.length c1, .slice a xs.length c, .int .i64 wd]) (by simp [results, Tryd.results33, go_sem, r0, r1, r2]) rfl ⟨a, c, rfl, ?_, (by repeat (first | (with_reducible first | exact Ext.refl _ | assumption | apply Ext.alloc | apply Ext.drew | apply Ext.drewN | refine Ext.setCell ?_ ?_ _ | refine Ext.trans ?_ (by assumption)) | (show _ ≤ _; first | omega | (dsimp only; omega) | (simp; done) | (simp; omega))))⟩
      refine Row.of_owns (?_ : World.ownsRow _ (w.heap.size + 2) 3 1 _ _ _)
      exact (by show World.ownsRow _ _ _ _ _ _ _; apply own_mono; (repeat (with_reducible first | apply own_below | apply own_alloc | apply own_drew | apply own_drewN | refine own_ext ?_ (by assumption))); exact HO.out; all_goals (first | omega | (dsimp only; omega) | (simp; done) | (simp; omega)))
end Go.Proofs.YtckipgijfgeghaaDoor
