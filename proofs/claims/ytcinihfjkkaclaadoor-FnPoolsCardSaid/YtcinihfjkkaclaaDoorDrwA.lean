/- DrawH, DrawH2 in one text. -/
import Derived.Test.YtcinihfjkkaclaaDoorCurA
import Derived.Test.YtcinihfjkkaclaaDoorNxtA
import Derived.Deep.AppendLies
namespace Go.Proofs.YtcinihfjkkaclaaDoor
open Go.RowKit

theorem long_set (n k : Nat) (hk : k < n) (x : Int) : ((List.replicate k x ++ List.replicate (n - k) 0).map (Value.int .u8)).set k (.int .u8 x) = (List.replicate (k + 1) x ++ List.replicate (n - (k + 1)) 0).map (Value.int .u8) := by
  rw [List.map_append, List.set_append_right _ _ (by simp)]
  simp only [List.length_map, List.length_replicate, Nat.sub_self]
  rw [show n - k = (n - (k + 1)) + 1 by omega, List.replicate_succ, List.replicate_succ']
  simp
set_option maxHeartbeats 800000 in
theorem spec_l01Long (n : Nat) (x : Int) (w : World) (hn : n ≤ 1048576) :
    Calls Tryd.prog 127 #[.int .i64 n, .int .u8 x] w fun e w' => ∃ s : ByteArray, e = .returned (.string s) ∧ s.size = n ∧ Ext w w' := by
  obtain ⟨i0, hi, hz0, hz1, hz2⟩ := info_parts infoByte
  go_enter Tryd.func127, Tryd.ntmps127
  go_wp2_with (at_make; refine wpList_make_full _ rfl _ _ 22 rfl w.heap.size 5 i0 _ 1 Tryd.underlying22 hi hz0 hz1 _ _ _ _ n rfl rfl rfl rfl (by rw [hz2]; omega) (by unfold maxLen; omega) (Nat.le_refl _) ?_; intro w1 hown1 hgrow1)
  have hx1 : Ext w w1 := (Ext.refl w).grown hgrow1 (by simp)
  rw [Nat.mul_one, show (Value.int .u8 0).cells = #[.int .u8 0] from rfl, toList_madeCells_one] at hown1
  go_loopw [6] (fun i wr => ∃ k : Nat, k ≤ n ∧ i = .int .i64 k ∧ wr.ownsRow w.heap.size 5 1 (.slice (some ⟨w.heap.size, 0, none⟩) n n) n ((List.replicate k x ++ List.replicate (n - k) 0).map (Value.int .u8)) ∧ Ext w wr) (fun i _ => n - (intOf i).toNat)
  case atStart => exact ⟨0, Nat.zero_le _, rfl, by simpa using hown1, hx1⟩
  case round =>
    obtain ⟨k, hk, rfl, hown, hx⟩ := hrel
    by_cases hlt : k < n
    · have hlt' : (k : Int) < n := by omega
      have hk0 : (0 : Int) ≤ k := by omega
      have e2 : wr.cell? ⟨w.heap.size, k, none⟩ = some (.int .u8 0) := by
        rw [hown.cellAt k (by omega)]
        rw [show n - k = (n - (k + 1)) + 1 by omega, List.replicate_succ, List.map_append, List.getElem?_append_right (by simp)]
        simp
      have e3 : wr.frozen? ⟨w.heap.size, k, none⟩ = false := hown.frozenAt k
      have S := hown.stored k (.int .u8 x)
      rw [long_set n k hlt] at S
      have HS := Lib.hid S
      clear S hown hown1 hgrow1
      go_wp2
      go_roundw
      case rel => exact ⟨k + 1, by omega, by go_num, HS.out.1, hx.setCell (Nat.le_refl _) _⟩
      case measure => simp [intOf]; omega
    · have hlt' : ¬ (k : Int) < n := by omega
      obtain ⟨s, hs, hcv⟩ := own_str hown
      go_wp2
      go_ret
      exact ⟨s, rfl, hs, hx⟩
set_option maxHeartbeats 800000 in
theorem spec_l13Root (b : Nat) (w : World) (h : Cur w b) :
    Calls Tryd.prog 133 #[.pointer (some ⟨b, 0, none⟩)] w fun e w' => ∃ s : ByteArray, e = .returned (.string s) ∧ s.size = 16 ∧ Cur w' b ∧ Mut b w w' := by
  go_enter Tryd.func133, Tryd.ntmps133
  go_wp2_with fail
  refine (spec_l01Text b 2 _ h (by omega)).mono ?_
  rintro e w1 ⟨s, rfl, hs, C1, M1⟩
  go_wp2_with fail
  have hz : (cutT s 16).size = 16 := by
    have := cutT_size s 16 (by decide)
    omega
  refine (spec_CutDigest s 16 _ (by omega)).mono ?_
  generalize cutT s 16 = r at *
  rintro e w2 ⟨rfl, x2⟩
  go_wp2
  go_ret
  exact ⟨_, rfl, hz, C1.ext x2, M1.trans (Mut.of_ext x2)⟩
end Go.Proofs.YtcinihfjkkaclaaDoor
namespace Go.Proofs.YtcinihfjkkaclaaDoor
open Go.RowKit

theorem good_snoc {xs : List Hd} {z : Hd} {house : Int} {k : Nat} (hk : k < xs.length) : goodHd (xs ++ [z]) house k = goodHd xs house k := by
  unfold goodHd
  rw [List.getElem?_append_left hk]
  have e : prevT (xs ++ [z]) k = prevT xs k := by unfold prevT; rw [List.take_append_of_le_length (by omega)]
  rw [e]
theorem chain_snoc {xs : List Hd} {house : Int} {root : ByteArray} (h : chainOk xs house = true) (hh : headOk house ((xs.length : Int) + 1) root (lastH xs) = true) : chainOk (xs ++ [⟨house, (xs.length : Int) + 1, root, lastH xs⟩]) house = true := by
  rw [chainOk, List.all_eq_true] at h ⊢
  intro k hk
  rw [List.mem_range, List.length_append, List.length_singleton] at hk
  by_cases hlt : k < xs.length
  · rw [good_snoc hlt]
    exact h k (List.mem_range.2 hlt)
  · obtain rfl : k = xs.length := by omega
    unfold goodHd
    rw [List.getElem?_append_right (Nat.le_refl _), Nat.sub_self]
    have e : prevT (xs ++ [⟨house, (xs.length : Int) + 1, root, lastH xs⟩]) xs.length = lastH xs := by unfold prevT; rw [List.take_left]
    simp only [List.getElem?_cons_zero, e, hh]
    simp
theorem hd_one (l : Hd) : ∀ u ∈ l.cells, u.oneCell' = true := by
  intro u hu
  simp [Hd.cells] at hu
  rcases hu with rfl | rfl | rfl | rfl <;> rfl
theorem hds_snoc (xs : List Hd) (l : Hd) : (xs ++ [l]).flatMap Hd.cells = xs.flatMap Hd.cells ++ l.cells := by simp
set_option maxRecDepth 100000 in
set_option maxHeartbeats 1600000 in
theorem spec_l13Chain (b : Nat) (w : World) (h : Cur w b) :
    Calls Tryd.prog 79 #[.pointer (some ⟨b, 0, none⟩)] w fun e w' => ∃ (xs : List Hd) (g c : Nat) (house : Int), e = .returned (.tuple #[.slice (some ⟨g, 0, none⟩) xs.length c, .int .i64 house]) ∧ (0 ≤ house ∧ house < 3) ∧ xs.length ≤ 4 ∧ chainOk xs house = true ∧ OwnHds w' w.heap.size (.slice (some ⟨g, 0, none⟩) xs.length c) xs ∧ Cur w' b ∧ Mut b w w' := by
  obtain ⟨i0, hi, hz0, hz1, hz2⟩ := info_parts infoHead
  have hb := h.lt
  go_enter Tryd.func79, Tryd.ntmps79
  go_wp2_with fail
  refine (spec_l01Below b 3 _ h (by omega)).mono ?_
  rintro e w1 ⟨house, rfl, hhouse, C1, M1⟩
  have hs1 := M1.size
  go_wp2
  go_loopw [5, 6] (fun v i wr => ∃ (k : Nat) (xs : List Hd) (g c : Nat), i = .int .i64 k ∧ k ≤ 4 ∧ xs.length ≤ k ∧ v = .slice (some ⟨g, 0, none⟩) xs.length c ∧ chainOk xs house = true ∧ OwnHds wr w.heap.size (.slice (some ⟨g, 0, none⟩) xs.length c) xs ∧ Cur wr b ∧ Mut b w wr) (fun _ i _ => 4 - (intOf i).toNat)
  case atStart => exact ⟨0, [], _, _, rfl, by omega, Nat.le_refl _, rfl, rfl, World.ownsRow_lit w1 #[] 0 hs1 (Nat.zero_le _) rfl, C1.ext (by repeat (first | (with_reducible first | exact Ext.refl _ | assumption | apply Ext.alloc | apply Ext.drew | apply Ext.drewN | refine Ext.setCell ?_ ?_ _ | refine Ext.trans ?_ (by assumption)) | (show _ ≤ _; first | omega | (dsimp only; omega) | (simp; done) | (simp; omega)))), M1.trans (Mut.of_ext (by repeat (first | (with_reducible first | exact Ext.refl _ | assumption | apply Ext.alloc | apply Ext.drew | apply Ext.drewN | refine Ext.setCell ?_ ?_ _ | refine Ext.trans ?_ (by assumption)) | (show _ ≤ _; first | omega | (dsimp only; omega) | (simp; done) | (simp; omega)))))⟩
  case round =>
    obtain ⟨k, xs, g, c, rfl, hk4, hxk, rfl, hch, hown, hc, hm⟩ := hrel
    have hsz := hm.size
    have HO := Lib.hid hown
    have HCH := Lib.hid hch
    clear hown hch
    go_wp2_with fail
    refine (spec_l01Below b 5 _ hc (by omega)).mono ?_
    rintro e w2 ⟨y, rfl, hy, C2, M2⟩
    have M2' := hm.trans M2
    have O2 := Lib.hid (own_grown HO.out M2 (fun k hk => by injection hk with hk; omega))
    by_cases hlt : (k : Int) < y
    · go_wp2_with fail
      refine (spec_l13Root b _ C2).mono ?_
      rintro e w3 ⟨root, rfl, hroot, C3, M3⟩
      have M3' := M2'.trans M3
      have O3 := Lib.hid (own_grown O2.out M3 (fun k hk => by injection hk with hk; omega))
      go_wp2_with fail
      refine (spec_NextHead _ xs house root _ (Row.of_owns O3.out) (by omega)).mono ?_
      rintro e w4 ⟨rfl, x4⟩
      have C4 := C3.ext x4
      have M4' := M3'.trans (Mut.of_ext x4)
      have O4 := Lib.hid (own_ext O3.out x4)
      have hs4 := M4'.size
      cases hn : nxOk xs house root
      · rw [nx_no hn]
        clear hn
        go_wp2
        go_roundw
        case rel => exact ⟨k + 1, xs, g, c, by go_num, by omega, by omega, rfl, HCH.out, own_ext O4.out (by repeat (first | (with_reducible first | exact Ext.refl _ | assumption | apply Ext.alloc | apply Ext.drew | apply Ext.drewN | refine Ext.setCell ?_ ?_ _ | refine Ext.trans ?_ (by assumption)) | (show _ ≤ _; first | omega | (dsimp only; omega) | (simp; done) | (simp; omega)))), C4.ext (by repeat (first | (with_reducible first | exact Ext.refl _ | assumption | apply Ext.alloc | apply Ext.drew | apply Ext.drewN | refine Ext.setCell ?_ ?_ _ | refine Ext.trans ?_ (by assumption)) | (show _ ≤ _; first | omega | (dsimp only; omega) | (simp; done) | (simp; omega)))), M4'.trans (Mut.of_ext (by repeat (first | (with_reducible first | exact Ext.refl _ | assumption | apply Ext.alloc | apply Ext.drew | apply Ext.drewN | refine Ext.setCell ?_ ?_ _ | refine Ext.trans ?_ (by assumption)) | (show _ ≤ _; first | omega | (dsimp only; omega) | (simp; done) | (simp; omega)))))⟩
        case measure => simp [intOf]; omega
      · rw [nx_yes hn]
        have hn2 : headOk house ((xs.length : Int) + 1) root (lastH xs) = true := by
          rw [nxOk, Bool.and_eq_true] at hn
          exact hn.2
        have HS := Lib.hid (chain_snoc HCH.out hn2)
        have HF := Lib.hid (hds_snoc xs ⟨house, (xs.length : Int) + 1, root, lastH xs⟩)
        clear hn hn2
        generalize lastH xs = prev at *
        go_wp2_with (at_builtin; refine wpList_append_own _ rfl (.tmp 27) (.tmp 29) 37 rfl w.heap.size 25 i0 _ 4 48 Tryd.underlying37 hi hz0 hz1 hz2 rfl (by decide) _ _ _ rfl ((O4.out.alloc _).alloc _) ⟨w4.heap.size + 1, 0, none⟩ 1 1 [.int .i64 house, .int .i64 ((xs.length : Int) + 1), .string root, .string prev] rfl rfl ?c1 ?c2 ?c3 ?c4 ?c5 ?_)
        case c1 => exact World.news_of_block (by simpa [World.size_alloc] using heap_alloc_new (w4.alloc (Obj.cells #[.int .i64 house, .int .i64 ((xs.length : Int) + 1), .string root, .string prev] 25)) (Obj.cells #[.int .i64 house, .int .i64 ((xs.length : Int) + 1), .string root, .string prev] 25))
        case c2 => exact hd_one ⟨house, (xs.length : Int) + 1, root, prev⟩
        case c3 => unfold maxLen; omega
        case c4 => omega
        case c5 => simp; omega
        intro v' w5 own5 hgrow _
        obtain ⟨g', c', rfl⟩ := own_form own5 (by omega)
        have O5 := Lib.hid own5
        have M5 : Mut b w w5 := ((M4'.alloc _).alloc _).grown hgrow (fun k hk => (own_lt O4.out k hk).1)
        have C5 : Cur w5 b := ((C4.ext ((Ext.refl _).alloc _)).ext ((Ext.refl _).alloc _)).grown hgrow (fun k hk => by have := (own_lt O4.out k hk).1; omega)
        clear own5 hgrow
        go_wp2
        go_roundw
        case rel => exact ⟨k + 1, xs ++ [⟨house, (xs.length : Int) + 1, root, prev⟩], g', c', by go_num, by omega, by simp; omega, by simp, HS.out, by unfold OwnHds; rw [HF.out, List.length_append]; exact O5.out, C5, M5⟩
        case measure => simp [intOf]; omega
    · go_wp2
      refine bodyPost_ret (v := .tuple #[.slice (some ⟨g, 0, none⟩) xs.length c, .int .i64 house]) (by simp [results, Tryd.results79, go_sem]) rfl ⟨xs, g, c, house, rfl, hhouse, by omega, HCH.out, O2.out, C2, M2'⟩
def HdFit (l : Hd) : Prop := l.root.size ≤ 32 ∧ l.prev.size ≤ 32
theorem chain_fit {xs : List Hd} {house : Int} (h : chainOk xs house = true) : ∀ l ∈ xs, HdFit l := by
  intro l hl
  obtain ⟨k, hk, rfl⟩ := List.getElem_of_mem hl
  rw [chainOk, List.all_eq_true] at h
  have h2 := h k (List.mem_range.2 hk)
  rw [good_eq hk, Bool.and_eq_true] at h2
  obtain ⟨-, -, h3, h4, -⟩ := headOk_true h2.1
  exact ⟨by omega, by omega⟩
theorem hd_put (u : Value) (l' : Hd) (j : Nat) (hj : j < 4) : ∀ (xs : List Hd) (i : Nat) (hi : i < xs.length), (xs[i].cells.set j u = l'.cells) → (xs.flatMap Hd.cells).set (i * 4 + j) u = (xs.set i l').flatMap Hd.cells
  | [], i, h, _ => by simp at h
  | x :: t, 0, _, e => by
    simp only [List.getElem_cons_zero] at e
    rw [List.set_cons_zero, List.flatMap_cons, List.flatMap_cons, Nat.zero_mul, Nat.zero_add, List.set_append_left _ _ (by rw [Hd.cells_len]; exact hj), e]
  | x :: t, i + 1, h, e => by
    have ih := hd_put u l' j hj t i (by simpa using h) (by simpa using e)
    rw [List.set_cons_succ, List.flatMap_cons, List.flatMap_cons, List.set_append_right _ _ (by rw [Hd.cells_len]; omega), Hd.cells_len, show (i + 1) * 4 + j - 4 = i * 4 + j by omega, ih]
theorem fit_set {xs : List Hd} (h : ∀ l ∈ xs, HdFit l) (i : Nat) {l' : Hd} (hl : HdFit l') : ∀ l ∈ xs.set i l', HdFit l := by
  intro l hm
  rcases List.mem_or_eq_of_mem_set hm with hm | rfl
  · exact h l hm
  · exact hl
end Go.Proofs.YtcinihfjkkaclaaDoor
