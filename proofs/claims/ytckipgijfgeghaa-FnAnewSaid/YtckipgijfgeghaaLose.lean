/- A disk after a loss of power: the program. -/
import Derived.Test.YtckipgijfgeghaaActs
namespace Go.Proofs.Ytckipgijfgeghaa
open Go.RowKit

/-- file y is what is left of file x -/
def LostF (x y : Fil) : Prop := ∃ n : Nat, y = ⟨x.name, x.text.extract 0 n, n⟩ ∧ x.kept ≤ n ∧ n ≤ x.text.size
def Lost (xs ys : List Fil) : Prop := ys.length = xs.length ∧ ∀ i, i < xs.length → LostF (xs.getD i noFil) (ys.getD i noFil)
def LostTo (xs ys : List Fil) (k : Nat) : Prop := ys.length = xs.length ∧ (∀ i, i < k → LostF (xs.getD i noFil) (ys.getD i noFil)) ∧ ∀ i, k ≤ i → ys.getD i noFil = xs.getD i noFil
theorem lostTo_succ {xs ys : List Fil} {k : Nat} (h : LostTo xs ys k) (hk : k < xs.length) (n : Nat) (h1 : xs[k].kept ≤ n) (h2 : n ≤ xs[k].text.size) : LostTo xs (ys.set k ⟨xs[k].name, xs[k].text.extract 0 n, n⟩) (k + 1) := by
  obtain ⟨a, b, c⟩ := h
  have hd : ∀ i, (ys.set k ⟨xs[k].name, xs[k].text.extract 0 n, n⟩).getD i noFil = if k = i then ⟨xs[k].name, xs[k].text.extract 0 n, n⟩ else ys.getD i noFil := by
    intro i
    rw [List.getD_eq_getElem?_getD, List.getElem?_set, List.getD_eq_getElem?_getD]
    by_cases e : k = i
    · subst e; rw [if_pos rfl, if_pos rfl, if_pos (by omega)]; rfl
    · rw [if_neg e, if_neg e]
  refine ⟨by simp [a], fun i hi => ?_, fun i hi => ?_⟩
  · rw [hd]
    by_cases e : k = i
    · subst e
      rw [if_pos rfl]
      refine ⟨n, ?_, ?_, ?_⟩
      · simp [hk]
      · simpa [hk] using h1
      · simpa [hk] using h2
    · rw [if_neg e]; exact b i (by omega)
  · rw [hd, if_neg (by omega)]; exact c i (by omega)

theorem lose_flat (ys : List Fil) (k : Nat) (hk : k < ys.length) (s : ByteArray) (q : Int) : ((ys.flatMap Fil.cells).set (k * 3 + 1) (.string s)).set (k * 3 + 2) (.int .i64 q) = (ys.set k ⟨ys[k].name, s, q⟩).flatMap Fil.cells := by
  rw [flat_set Fil.cells_len ys k 1 hk (by omega) ⟨ys[k].name, s, ys[k].kept⟩ (.string s) (by simp [Fil.cells])]
  rw [flat_set Fil.cells_len (ys.set k ⟨ys[k].name, s, ys[k].kept⟩) k 2 (by simpa using hk) (by omega) ⟨ys[k].name, s, q⟩ (.int .i64 q) (by simp [Fil.cells]), List.set_set]
theorem lose_round {w wr : World} {g B C n c k : Nat} {xs ys : List Fil} {v4 v6 : Value} (hk : k < ys.length) (hkx : k < xs.length) (e : ys[k] = xs[k]) (ow : wr.ownsRow B 113 3 (.slice (some ⟨g, 0, none⟩) n c) n (ys.flatMap Fil.cells)) {b4 : Nat} (P4 : Bx wr b4 [v4]) (P6 : Bx wr C [v6]) (h4 : g ≠ b4) (h6 : g ≠ C)
    (X : Ext w wr) (hg : w.heap.size ≤ g) (hL : LostTo xs ys k) (q : Int) (h0 : 0 ≤ q) (h1 : xs[k].kept ≤ q) (h2 : q ≤ xs[k].text.size) :
    ∃ ys', Bx ((wr.setCell ⟨g, k * 3 + 1, none⟩ (.string (xs[k].text.extract 0 q.toNat))).setCell ⟨g, k * 3 + 2, none⟩ (.int .i64 q)) b4 [v4] ∧ Bx ((wr.setCell ⟨g, k * 3 + 1, none⟩ (.string (xs[k].text.extract 0 q.toNat))).setCell ⟨g, k * 3 + 2, none⟩ (.int .i64 q)) C [v6]
      ∧ ((wr.setCell ⟨g, k * 3 + 1, none⟩ (.string (xs[k].text.extract 0 q.toNat))).setCell ⟨g, k * 3 + 2, none⟩ (.int .i64 q)).ownsRow B 113 3 (.slice (some ⟨g, 0, none⟩) n c) n (ys'.flatMap Fil.cells) ∧ LostTo xs ys' (k + 1) ∧ Ext w ((wr.setCell ⟨g, k * 3 + 1, none⟩ (.string (xs[k].text.extract 0 q.toNat))).setCell ⟨g, k * 3 + 2, none⟩ (.int .i64 q)) := by
  obtain ⟨m, rfl⟩ := Int.eq_ofNat_of_zero_le h0
  refine ⟨ys.set k ⟨xs[k].name, xs[k].text.extract 0 m, m⟩, (P4.far h4 _ _).far h4 _ _, (P6.far h6 _ _).far h6 _ _, ?_, lostTo_succ hL hkx m h1 (by omega), (X.setCell hg _).setCell hg _⟩
  have S := ((ow.stored (k * 3 + 1) (.string (xs[k].text.extract 0 m))).1.stored (k * 3 + 2) (.int .i64 m)).1
  rw [lose_flat ys k hk, e] at S
  exact S
set_option maxRecDepth 100000 in
set_option maxHeartbeats 1600000 in
theorem impl_LoseDisk (v l : Value) (xs : List Fil) (js : List Int) (w : World) (h : Fls w v xs) (hv : Solid v) (hs : FilFit xs) (ho : diskOk xs = true) (hb : xs.length ≤ 30) (hl : Row w 1 l js.length (js.map (Value.int .i64)))
    (hf : ∀ f ∈ xs, 0 ≤ f.kept ∧ f.kept ≤ f.text.size ∧ f.text.size ≤ 20000) :
    Calls Try.prog 49 #[.agg #[v], l] w fun e w' => ∃ (ys : List Fil) (a : Option Addr) (c : Nat), e = .returned (.tuple #[.agg #[.slice a ys.length c], .bool true]) ∧ OwnFls w' w.heap.size (.slice a ys.length c) ys ∧ Lost xs ys ∧ Ext w w' := by
  have HO := Lib.hid ho
  clear ho
  obtain ⟨a1, c1, rfl⟩ := h.form
  obtain ⟨-, a2, c2, rfl, hc2, hm2, g2⟩ := hl
  unfold maxLen at hm2
  have P4 := Bx.new (w.alloc (Obj.cells #[.slice a1 xs.length c1] 38)) #[.slice none 0 0] 38
  have P2 := Bx.new w #[.slice a1 xs.length c1] 38
  have X : Ext w ((w.alloc (Obj.cells #[.slice a1 xs.length c1] 38)).alloc (Obj.cells #[.slice none 0 0] 38)) := ((Ext.refl w).alloc _).alloc _
  replace P2 := P2.ext (show Ext _ ((w.alloc (Obj.cells #[.slice a1 xs.length c1] 38)).alloc (Obj.cells #[.slice none 0 0] 38)) from (Ext.refl _).alloc _)
  rw [World.size_alloc] at P4
  go_enter Try.func49, Try.ntmps49
  go_wp2_with fail
  generalize (w.alloc (Obj.cells #[.slice a1 xs.length c1] 38)).alloc (Obj.cells #[.slice none 0 0] 38) = w0 at *
  have z2 := P2.2.1 0 _ rfl
  refine (impl_DiskOk _ xs _ (h.ext X) hs).mono ?_
  rw [HO.out]
  rintro e w1 ⟨rfl, x1⟩
  replace P2 := P2.ext x1
  replace P4 := P4.ext x1
  replace X := X.trans x1
  clear x1 z2
  have z2 := P2.2.1 0 _ rfl
  go_wp2_with fail
  refine (impl_copyDisk _ xs _ (h.ext X) hv hb).mono ?_
  rintro e w4 ⟨oa, oc, rfl, ow, x4⟩
  have hB2 := P4.1
  replace P4 := P4.ext x4
  replace X := X.trans x4
  have hBz := x4.size
  clear x4 z2 P2
  have hlt := own_lt ow
  have ow2 := own_mono (own_alloc ow (Obj.cells #[.slice oa xs.length oc] 38)) (show w.heap.size + 1 + 1 ≤ w1.heap.size by omega)
  have P6 := Bx.new w4 #[.slice oa xs.length oc] 38
  have x5 : Ext w4 (w4.alloc (Obj.cells #[.slice oa xs.length oc] 38)) := (Ext.refl _).alloc _
  have hne : (Value.slice oa xs.length oc).ownBlock ≠ some w4.heap.size := fun e => by have := (hlt _ e).2; omega
  replace P4 := P4.ext x5
  replace X := X.trans x5
  have hB6 : w.heap.size + 1 < w4.heap.size := by omega
  clear x5 ow hlt hBz
  go_upto_region 4 with (fail)
  generalize w4.alloc (Obj.cells #[.slice oa xs.length oc] 38) = w5 at *
  generalize w4.heap.size = C6 at *
  have z6 := P6.2.1 0 _ rfl
  go_wp2
  go_loopw [7, 8, 9, 19] (fun _ _ _ i wr => ∃ (k : Nat) (ys : List Fil), k ≤ xs.length ∧ i = .int .i64 k ∧ Bx wr (w.heap.size + 1) [.slice none 0 0] ∧ Bx wr C6 [.slice oa xs.length oc] ∧ wr.ownsRow (w.heap.size + 1 + 1) 113 3 (.slice oa xs.length oc) xs.length (ys.flatMap Fil.cells) ∧ LostTo xs ys k ∧ Ext w wr) (fun _ _ _ i _ => xs.length - (intOf i).toNat)
  case atStart => exact ⟨0, xs, Nat.zero_le _, rfl, P4, P6, ow2, ⟨rfl, by omega, fun _ _ => rfl⟩, X⟩
  case round =>
    clear P4 P6 ow2 X z6
    obtain ⟨k, ys, hk, rfl, P4, P6, ow, hL, X⟩ := hrel
    have z6 := P6.2.1 0 _ rfl
    by_cases hlt : k < xs.length
    · obtain ⟨g, cg, hg⟩ := own_form ow (by omega)
      injection hg with g1 g3 g4
      subst g1 g4
      clear g3
      have hgC : g ≠ C6 := fun e => hne (by rw [e]; rfl)
      have hgB := (own_lt ow g rfl).1
      have hyl : ys.length = xs.length := hL.1
      have hky : k < ys.length := by omega
      have hyk : ys[k] = xs[k] := by have := hL.2.2 k (Nat.le_refl _); simpa [hlt, hky] using this
      have c1' := ow.cellAt (k * 3 + 1) (by omega)
      have c2' := ow.cellAt (k * 3 + 2) (by omega)
      rw [fil_c1 ys k hky, hyk] at c1'
      rw [fil_c2 ys k hky, hyk] at c2'
      have ff : ∀ j, wr.frozen? ⟨g, j, none⟩ = false := fun j => ow.frozenAt j
      obtain ⟨f1, f2, f3⟩ := hf _ (List.getElem_mem hlt)
      have HL := Lib.hid hL
      have HW := Lib.hid ow
      have k1 : (0 : Int) ≤ k := by omega
      have k2 : (k : Int) < xs.length := by omega
      have RL := Lib.hid (lose_round hky hlt hyk ow P4 P6 (by omega) hgC X (by omega) hL)
      clear hyl hL ow P4 P6
      by_cases hj : k < js.length
      · rcases g2 with g2 | ⟨b2, o2, rfl, hb2, g2⟩
        · omega
        have e1 : wr.cell? ⟨b2, o2 + k, none⟩ = some (.int .i64 js[k]) := (X.cell b2 _ hb2).trans (g2 k _ (by simp [hj]))
        have j1 : (k : Int) < js.length := by omega
        clear g2
        go_wp2
        go_region
        go_wp2
        go_roundw
        case rel =>
          obtain ⟨ys', r1, r2, r3, r4, r5⟩ := RL.out (max (min js[k] xs[k].text.size) xs[k].kept) (by omega) (by omega) (by omega)
          exact ⟨k + 1, ys', by omega, by go_num, r1.ext (Ext.refl _).drew, r2.ext (Ext.refl _).drew, own_drew r3, r4, r5.drew⟩
        case measure => simp [intOf]; omega
      · have j1 : ¬ (k : Int) < js.length := by omega
        go_wp2
        go_roundw
        case rel =>
          obtain ⟨ys', r1, r2, r3, r4, r5⟩ := RL.out (max 0 xs[k].kept) (by omega) (by omega) (by omega)
          exact ⟨k + 1, ys', by omega, by go_num, r1, r2, r3, r4, r5⟩
        case measure => simp [intOf]; omega
    · obtain rfl : k = xs.length := by omega
      have z4 := P4.2.1 0 _ rfl
      have f4 := P4.2.2 0
      have XF := X.setCell (p := ⟨w.heap.size + 1, 0, none⟩) (by dsimp only; omega) (.slice oa xs.length oc)
      have RF := P4.set 0 (.slice oa xs.length oc) (by simp)
      have OF := Lib.hid (own_mono (own_below ow (p := ⟨w.heap.size + 1, 0, none⟩) (u := .slice oa xs.length oc) (by dsimp only; omega)) (show w.heap.size ≤ w.heap.size + 1 + 1 by omega))
      have HL := Lib.hid hL
      clear ow hL
      go_wp2
      generalize wr.setCell ⟨w.heap.size + 1, 0, none⟩ (.slice oa xs.length oc) = WF at *
      have k0 := RF.2.1 0 _ rfl
      refine bodyPost_ret (v := .tuple #[.agg #[.slice oa xs.length oc], .bool true]) (by simp [results, Try.results49, go_sem, k0]) rfl ?_
      refine ⟨ys, oa, oc, by rw [HL.out.1], ?_, ⟨HL.out.1, HL.out.2.1⟩, XF⟩
      rw [OwnFls, HL.out.1]
      exact OF.out
end Go.Proofs.Ytckipgijfgeghaa
