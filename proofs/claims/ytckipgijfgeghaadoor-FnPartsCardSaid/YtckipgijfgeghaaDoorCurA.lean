/- Cur, Cur2, Big, Plc in one text. -/
import Derived.Test.YtckipgijfgeghaaDoorFields
import Derived.Test.YtckipgijfgeghaaDoorStrA
import Derived.Lib.BufferRead
namespace Go.Proofs.YtckipgijfgeghaaDoor
open Go.RowKit

/-- the bytes of a draw, in a block below b -/
def Code (w : World) (b : Nat) (v : Value) (xs : List Int) : Prop := ∃ a cap, v = .slice a xs.length cap ∧ (∀ j, 0 ≤ xs.getD j 0 ∧ xs.getD j 0 ≤ 255) ∧ (xs.length = 0 ∨ ∃ g o, a = some ⟨g, o, none⟩ ∧ g < b ∧ ∀ j, j < xs.length → w.cell? ⟨g, o + j, none⟩ = some (.int .u8 (xs.getD j 0)))
/-- block b is a cursor -/
def Cur (w : World) (b : Nat) : Prop := ∃ v xs, ∃ i : Nat, ∃ h : Int, b < w.heap.size ∧ w.cell? ⟨b, 0, none⟩ = some v ∧ w.cell? ⟨b, 1, none⟩ = some (.int .i64 i) ∧ w.cell? ⟨b, 2, none⟩ = some (.int .i64 h) ∧ (∀ o, w.frozen? ⟨b, o, none⟩ = false) ∧ i ≤ xs.length ∧ xs.length ≤ 1048576 ∧ Code w b v xs
theorem Code.keep {w w' : World} {b : Nat} {v : Value} {xs : List Int} (h : Code w b v xs) (hc : ∀ k o, k < b → w'.cell? ⟨k, o, none⟩ = w.cell? ⟨k, o, none⟩) : Code w' b v xs := by
  obtain ⟨a, cap, rfl, hx, h⟩ := h
  refine ⟨a, cap, rfl, hx, ?_⟩
  rcases h with h | ⟨g, o, rfl, hg, h⟩
  · exact Or.inl h
  · exact Or.inr ⟨g, o, rfl, hg, fun j hj => (hc _ _ hg).trans (h j hj)⟩
theorem Cur.ext {w w' : World} {b : Nat} (h : Cur w b) (hx : Ext w w') : Cur w' b := by
  obtain ⟨v, xs, i, n, hb, c0, c1, c2, fz, hi, hl, hc⟩ := h
  exact ⟨v, xs, i, n, Nat.lt_of_lt_of_le hb hx.size, (hx.cell _ _ hb).trans c0, (hx.cell _ _ hb).trans c1, (hx.cell _ _ hb).trans c2, fun o => (hx.frozen _ _ hb).trans (fz o), hi, hl, hc.keep fun k o hk => hx.cell _ _ (by omega)⟩
theorem Cur.lt {w : World} {b : Nat} (h : Cur w b) : b < w.heap.size := by
  obtain ⟨v, xs, i, n, hb, -⟩ := h
  exact hb
theorem Code.set {w : World} {b : Nat} {v : Value} {xs : List Int} (h : Code w b v xs) (o : Nat) (u : Value) : Code (w.setCell ⟨b, o, none⟩ u) b v xs :=
  h.keep fun k o' hk => by
    apply World.cell?_setCell_other
    intro e
    have := congrArg Addr.block e
    dsimp only at this
    omega
theorem and255 (y : Int) : 0 ≤ bits .and .i64 y 255 ∧ bits .and .i64 y 255 ≤ 255 := by
  show 0 ≤ IntKind.i64.wrap ((BitVec.ofInt 64 y &&& BitVec.ofInt 64 255).toNat : Int) ∧ IntKind.i64.wrap ((BitVec.ofInt 64 y &&& BitVec.ofInt 64 255).toNat : Int) ≤ 255
  have h : (BitVec.ofInt 64 y &&& BitVec.ofInt 64 255).toNat ≤ 255 := by
    rw [BitVec.toNat_and]
    exact Nat.le_trans Nat.and_le_right (by decide)
  generalize (BitVec.ofInt 64 y &&& BitVec.ofInt 64 255).toNat = m at h ⊢
  rw [IntKind.wrap_i64]
  omega

set_option maxHeartbeats 800000 in
theorem spec_l01Byte (b : Nat) (w : World) (h : Cur w b) :
    Calls Tryd.prog 16 #[.pointer (some ⟨b, 0, none⟩)] w fun e w' => ∃ x : Int, e = .returned (.int .i64 x) ∧ (0 ≤ x ∧ x ≤ 255) ∧ Cur w' b ∧ Mut b w w' := by
  obtain ⟨v, xs, i, n, hb, c0, c1, c2, fz, hi, hl, hc⟩ := h
  obtain ⟨a, cap, rfl, hx, hr0⟩ := id hc
  clear hr0
  go_enter Tryd.func16, Tryd.ntmps16
  go_wp2
  generalize wrap64 (wrap64 (n * 6364136223846793005) + 1442695040888963407) = n1
  have d0 := (cell_set_off (w := w) (b := b) (u := .int .i64 n1) (show (2 : Nat) ≠ 0 by decide)).trans c0
  have d1 := (cell_set_off (w := w) (b := b) (u := .int .i64 n1) (show (2 : Nat) ≠ 1 by decide)).trans c1
  have d2 := World.cell?_setCell_same _ ⟨b, 2, none⟩ (.int .i64 n1) c2
  have M1 : Mut b w (w.setCell ⟨b, 2, none⟩ (.int .i64 n1)) := (Mut.refl b w).setCell 2 (.int .i64 n1)
  have df : ∀ o, (w.setCell ⟨b, 2, none⟩ (.int .i64 n1)).frozen? ⟨b, o, none⟩ = false := fun o => by rw [World.frozen?_setCell]; exact fz o
  have hb1 : b < (w.setCell ⟨b, 2, none⟩ (.int .i64 n1)).heap.size := by rw [World.size_setCell]; exact hb
  have hc1 := hc.set 2 (.int .i64 n1)
  generalize w.setCell ⟨b, 2, none⟩ (.int .i64 n1) = W1 at *
  clear c0 c1 c2 fz hb hc
  go_quiet (fail)
  go_wp2
  have hx0 := and255 (bits .xor .i64 (n1 / 8589934592) (n1 / 35184372088832))
  generalize bits .and .i64 (bits .xor .i64 (n1 / 8589934592) (n1 / 35184372088832)) 255 = x at *
  have HX := Lib.hid hx0
  by_cases hlt : i < xs.length
  · have hlt' : (i : Int) < xs.length := by omega
    have hi0 : (0 : Int) ≤ i := by omega
    obtain ⟨a', cap', he, -, hr⟩ := id hc1
    injection he with he1 he2 he3
    subst he1
    rcases hr with hr | ⟨g, o, rfl, hg, hr⟩
    · omega
    have dg := hr i hlt
    have hbx := hx i
    generalize xs.getD i 0 = y at *
    clear hr
    go_quiet (fail)
    go_wp2
    go_quiet (fail)
    go_wp2
    have hz := and255 (x + y)
    go_ret
    exact ⟨_, rfl, hz, ⟨_, xs, i + 1, n1, by rw [World.size_setCell]; exact hb1, (cell_set_off (by decide)).trans d0, World.cell?_setCell_same _ ⟨b, 1, none⟩ _ d1, (cell_set_off (by decide)).trans d2, fun o => by rw [World.frozen?_setCell]; exact df o, by omega, hl, (hc1.keep (w' := W1.drewN _) (fun _ _ _ => rfl)).set 1 _⟩, (M1.drewN _).setCell 1 _⟩
  · have hlt' : ¬ ((i : Int) < xs.length) := by omega
    go_quiet (fail)
    go_wp2
    go_ret
    exact ⟨x, rfl, HX.out, ⟨_, xs, i, n1, hb1, d0, d1, d2, df, hi, hl, hc1⟩, M1.drewN _⟩

set_option maxHeartbeats 800000 in
theorem spec_l01Below (b : Nat) (n : Int) (w : World) (h : Cur w b) (hn : 0 < n ∧ n ≤ 4294967296) :
    Calls Tryd.prog 17 #[.pointer (some ⟨b, 0, none⟩), .int .i64 n] w fun e w' => ∃ x : Int, e = .returned (.int .i64 x) ∧ (0 ≤ x ∧ x < n) ∧ Cur w' b ∧ Mut b w w' := by
  obtain ⟨hn1, hn2⟩ := hn
  have h0 : ¬ n ≤ 0 := by omega
  have h00 : n ≠ 0 := by omega
  by_cases hs : n ≤ 256
  · go_enter Tryd.func17, Tryd.ntmps17
    go_wp2_with fail
    refine (spec_l01Byte b _ h).mono ?_
    rintro e w1 ⟨x, rfl, hx, C1, M1⟩
    go_wp2
    go_ret
    exact ⟨_, rfl, ⟨Int.emod_nonneg _ h00, Int.emod_lt_of_pos _ hn1⟩, C1, M1⟩
  · go_enter Tryd.func17, Tryd.ntmps17
    go_wp2_with fail
    refine (spec_l01Byte b _ h).mono ?_
    rintro e w1 ⟨x, rfl, hx, C1, M1⟩
    go_wp2_with fail
    refine (spec_l01Byte b _ C1).mono ?_
    rintro e w2 ⟨y, rfl, hy, C2, M2⟩
    go_wp2_with fail
    refine (spec_l01Byte b _ C2).mono ?_
    rintro e w3 ⟨z, rfl, hz, C3, M3⟩
    go_wp2_with fail
    refine (spec_l01Byte b _ C3).mono ?_
    rintro e w4 ⟨u, rfl, hu, C4, M4⟩
    go_wp2
    go_ret
    exact ⟨_, rfl, ⟨Int.emod_nonneg _ h00, Int.emod_lt_of_pos _ hn1⟩, C4, ((M1.trans M2).trans M3).trans M4⟩
theorem cur_new {w : World} {v : Value} {xs : List Int} (n : Int) (h : Code w w.heap.size v xs) (hl : xs.length ≤ 1048576) {t : TypeId} : Ending.returned (.pointer (some ⟨w.heap.size, 0, none⟩)) = Ending.returned (.pointer (some ⟨w.heap.size, 0, none⟩)) ∧ Cur (w.alloc (Obj.cells #[v, .int .i64 0, .int .i64 n] t)) w.heap.size ∧ Ext w (w.alloc (Obj.cells #[v, .int .i64 0, .int .i64 n] t)) := by
  have hx : Ext w (w.alloc (Obj.cells #[v, .int .i64 0, .int .i64 n] t)) := (Ext.refl w).alloc _
  refine ⟨rfl, ⟨v, xs, 0, n, by simp, by simp [go_sem], by simp [go_sem], by simp [go_sem], fun o => by simp [go_sem], Nat.zero_le _, hl, h.keep fun k o hk => hx.cell _ _ hk⟩, hx⟩
set_option maxHeartbeats 800000 in
theorem spec_l01New (v : Value) (xs : List Int) (w : World) (h : Code w w.heap.size v xs) (hl : xs.length ≤ 1048576) :
    Calls Tryd.prog 15 #[v] w fun e w' => e = .returned (.pointer (some ⟨w.heap.size, 0, none⟩)) ∧ Cur w' w.heap.size ∧ Ext w w' := by
  have HC := Lib.hid h
  obtain ⟨a, cap, rfl, hx, hr⟩ := h
  go_enter Tryd.func15, Tryd.ntmps15
  go_wp2
  go_loopw [3, 4] (fun hv iv wr => ∃ (j : Nat) (n : Int), j ≤ xs.length ∧ j ≤ 4000 ∧ iv = .int .i64 j ∧ hv = .int .i64 n ∧ w = wr) (fun _ iv _ => 4000 - (intOf iv).toNat)
  case atStart => exact ⟨0, _, by omega, by omega, rfl, rfl, rfl⟩
  case round =>
    obtain ⟨j, n, hj, hj4, rfl, rfl, rfl⟩ := hrel
    have hjl0 : (0 : Int) ≤ j := by omega
    by_cases hlt : j < xs.length
    · have hlt' : (j : Int) < xs.length := by omega
      by_cases h4 : j < 4000
      · have h4' : (j : Int) < 4000 := by omega
        rcases hr with hr | ⟨g, o, rfl, hg, hr⟩
        · omega
        have dg := hr j hlt
        have hbx := hx j
        generalize xs.getD j 0 = y at *
        go_wp2
        go_roundw
        case rel => exact ⟨j + 1, _, by omega, by omega, by go_num, rfl, by trivial⟩
        case measure => simp [intOf]; omega
      · have h4' : ¬ (j : Int) < 4000 := by omega
        go_wp2
        go_ret
        exact cur_new _ HC.out hl

    · have hlt' : ¬ (j : Int) < xs.length := by omega
      go_wp2
      go_ret
      exact cur_new _ HC.out hl

end Go.Proofs.YtckipgijfgeghaaDoor
namespace Go.Proofs.YtckipgijfgeghaaDoor
open Go.RowKit

theorem Cur.grown {w w' : World} {b : Nat} {row : Option Nat} (h : Cur w b) (hg : w.grownBy w' row) (hr : ∀ k, row = some k → b < k) : Cur w' b := by
  obtain ⟨v, xs, i, n, hb, c0, c1, c2, fz, hi, hl, hc⟩ := h
  have hcell : ∀ k o, k ≤ b → w'.cell? ⟨k, o, none⟩ = w.cell? ⟨k, o, none⟩ := fun k o hk => World.cell?_of_block (w := w) (a := ⟨k, o, none⟩) (hg.block k (by omega) (fun e => by have := hr k e.symm; omega))
  have hfz : ∀ k o, k ≤ b → w'.frozen? ⟨k, o, none⟩ = w.frozen? ⟨k, o, none⟩ := fun k o hk => World.frozen?_of_block (w := w) (a := ⟨k, o, none⟩) (hg.block k (by omega) (fun e => by have := hr k e.symm; omega))
  exact ⟨v, xs, i, n, Nat.lt_of_lt_of_le hb hg.size, (hcell _ _ (Nat.le_refl _)).trans c0, (hcell _ _ (Nat.le_refl _)).trans c1, (hcell _ _ (Nat.le_refl _)).trans c2, fun o => (hfz _ _ (Nat.le_refl _)).trans (fz o), hi, hl, hc.keep fun k o hk => hcell k o (by omega)⟩
theorem Mut.grown {b : Nat} {w w1 w2 : World} {row : Option Nat} (h : Mut b w w1) (hg : w1.grownBy w2 row) (hr : ∀ k, row = some k → w.heap.size ≤ k) : Mut b w w2 :=
  ⟨hg.os.trans h.os, hg.tape.trans h.tape, hg.output.trans h.output, Nat.le_trans h.size hg.size, fun i hi hb => (hg.block i (Nat.lt_of_lt_of_le hi h.size) (fun e => by have := hr i e.symm; omega)).trans (h.block i hi hb)⟩
theorem own_str {w : World} {base n : Nat} {v : Value} {ys : List Int} (h : w.ownsRow base 5 1 v n (ys.map (Value.int .u8))) : ∃ s : ByteArray, s.size = n ∧ (convert 22 9 v).run Tryd.prog w = .ok (.string s) w := by
  have hl : ys.length = n := by simpa using h.1
  rcases h.2 with ⟨rfl, rfl⟩ | ⟨g, cap, cur, rfl, -⟩
  · exact ⟨⟨#[]⟩, rfl, Lib.run_convert_nil_bytes w _ _ _ _ Tryd.underlying22 Tryd.underlying5 Tryd.underlying9⟩
  · exact ⟨strOfNums ys, by rw [strOfNums_size, hl], conv_own h⟩

theorem infoInt : (Tryd.prog.info? 3).map (fun i => (i.zero, i.size, i.bytes)) = some (some (.int .i64 0), 1, 8) := by kernel_rfl
set_option maxHeartbeats 1600000 in
theorem spec_DrawPlaces (v : Value) (xs : List Int) (w : World) (h : Code w w.heap.size v xs) (hl : xs.length ≤ 1048576) :
    Calls Tryd.prog 6 #[v] w fun e w' => ∃ (ys : List Int) (a : Option Addr) (c : Nat), e = .returned (.slice a 12 c) ∧ ys.length = 12 ∧ (∀ y ∈ ys, 0 ≤ y ∧ y < 10000) ∧ w'.ownsRow w.heap.size 3 1 (.slice a 12 c) 12 (ys.map (Value.int .i64)) ∧ Ext w w' := by
  obtain ⟨i0, hi, hz0, hz1, hz2⟩ := info_parts infoInt
  go_enter Tryd.func6, Tryd.ntmps6
  go_wp2_with fail
  refine (spec_l01New v xs _ h hl).mono ?_
  rintro e w1 ⟨rfl, C1, x1⟩
  go_wp2_with fail
  refine (spec_l01Byte _ _ C1).mono ?_
  rintro e w2 ⟨y, rfl, -, C2, M2⟩
  have x2 : Ext w w2 := x1.mut M2 (Nat.le_refl _)
  go_wp2
  go_loopw [4, 5] (fun v i wr => ∃ (ys : List Int), i = .int .i64 ys.length ∧ ys.length ≤ 12 ∧ (∀ y ∈ ys, 0 ≤ y ∧ y < 10000) ∧ wr.ownsRow (w.heap.size + 1) 3 1 v ys.length (ys.map (Value.int .i64)) ∧ Cur wr w.heap.size ∧ Ext w wr) (fun _ i _ => 12 - (intOf i).toNat)
  case atStart => exact ⟨[], rfl, Nat.zero_le _, fun y hy => by simp at hy, World.ownsRow_lit w2 #[] 0 (by have := C2.lt; omega) (Nat.zero_le _) rfl, C2.ext (by repeat (first | (with_reducible first | exact Ext.refl _ | assumption | apply Ext.alloc | apply Ext.drew | apply Ext.drewN | refine Ext.setCell ?_ ?_ _ | refine Ext.trans ?_ (by assumption)) | (show _ ≤ _; first | omega | (dsimp only; omega) | (simp; done) | (simp; omega)))), (by repeat (first | (with_reducible first | exact Ext.refl _ | assumption | apply Ext.alloc | apply Ext.drew | apply Ext.drewN | refine Ext.setCell ?_ ?_ _ | refine Ext.trans ?_ (by assumption)) | (show _ ≤ _; first | omega | (dsimp only; omega) | (simp; done) | (simp; omega))))⟩
  case round =>
    obtain ⟨ys, rfl, hle, hall, hown, hc, hm⟩ := hrel
    obtain ⟨a, c, rfl⟩ := own_any hown
    have hsz := hm.size
    have HO := Lib.hid hown
    have HA := Lib.hid hall
    clear hown hall
    by_cases hlt : ys.length < 12
    · have hlt' : (ys.length : Int) < 12 := by omega
      go_wp2_with fail
      refine (spec_l01Below _ 10000 _ hc (by omega)).mono ?_
      rintro e w3 ⟨x, rfl, hx, C3, M3⟩
      have hown := own_grown HO.out M3 (fun k hk => by injection hk with hk; omega)
      have X3 : Ext w w3 := hm.mut M3 (Nat.le_refl _)
      have hs2 := X3.size
      have hs3 := C3.lt
      go_wp2_with (at_builtin; refine wpList_append_own _ rfl (.tmp 15) (.tmp 18) 26 rfl (w.heap.size + 1) 3 i0 (.int .i64 0) 1 8 Tryd.underlying26 hi hz0 hz1 hz2 rfl (by decide) _ _ _ rfl (hown.alloc _) ⟨w3.heap.size, 0, none⟩ 1 1 [.int .i64 x] rfl rfl ?c1 ?c2 ?c3 ?c4 ?c5 ?_)
      case c1 =>
        intro j u hj
        match j, hj with
        | 0, hj => simp at hj; subst hj; simp [Addr.add]
      case c2 => intro u hu; simp at hu; subst hu; rfl
      case c3 => unfold maxLen; omega
      case c4 => omega
      case c5 => simp; omega
      intro v' w4 hown' hgrow _
      have hx1 : Ext w w4 := own_ext_of (X3.alloc _) (hown.alloc _) hgrow (by omega)
      have C4 : Cur w4 w.heap.size := (C3.ext ((Ext.refl _).alloc _)).grown hgrow (fun k hk => by have := (own_lt hown k hk).1; omega)
      have HO2 := Lib.hid hown'
      clear hown' hgrow hown HO
      go_wp2
      go_roundw
      case rel => exact ⟨ys ++ [x], by simp, by simp; omega, fun y hy => by rw [List.mem_append, List.mem_singleton] at hy; rcases hy with hy | rfl; exact HA.out y hy; exact hx, by simpa using HO2.out, C4, hx1⟩
      case measure => simp [intOf]; omega
    · have h12 : ys.length = 12 := by omega
      have hlt' : ¬ (ys.length : Int) < 12 := by omega
      have HO2 := HO.out
      rw [h12] at HO2
      go_wp2
      go_ret
      exact ⟨ys, a, c, rfl, h12, HA.out, own_mono HO2 (by omega), hm⟩
end Go.Proofs.YtckipgijfgeghaaDoor
namespace Go.Proofs.YtckipgijfgeghaaDoor
open Go.RowKit

theorem laws_big (v : Value) (b : Nat) (xs : List Int) (w : World) (h : Code w b v xs) :
    Calls Tryd.prog 4 #[v] w fun e w' => e = .returned (.bool (decide ((1048576 : Int) < xs.length))) ∧ w = w' := by
  obtain ⟨a, cap, rfl, -, -⟩ := h
  go_enter Tryd.func4, Tryd.ntmps4
  go_wp2
  go_ret
  exact ⟨rfl, rfl⟩
end Go.Proofs.YtckipgijfgeghaaDoor
namespace Go.Proofs.YtckipgijfgeghaaDoor
open Go.RowKit

theorem spec_DrawPlaces2 (v : Value) (xs : List Int) (w : World) (h : Code w w.heap.size v xs) (hl : xs.length ≤ 1048576) :
    Calls Tryd.prog 6 #[v] w fun e w' => ∃ (ys : List Int) (g c : Nat), e = .returned (.slice (some ⟨g, 0, none⟩) 12 c) ∧ (∀ j, 0 ≤ ys.getD j 0 ∧ ys.getD j 0 < 10000) ∧ w.heap.size ≤ g ∧ g < w'.heap.size ∧ (∀ j, j < 12 → w'.cell? ⟨g, j, none⟩ = some (.int .i64 (ys.getD j 0))) ∧ 12 ≤ c ∧ Ext w w' := by
  refine (spec_DrawPlaces v xs w h hl).mono ?_
  rintro e w' ⟨ys, a, c, rfl, h12, hall, hown, hx⟩
  obtain ⟨g, c', he⟩ := own_form hown (by omega)
  injection he with he1 he2 he3
  subst he1 he3
  have hlt := own_lt hown g rfl
  have hc : 12 ≤ c := by
    rcases hown.2 with ⟨-, h0⟩ | ⟨g', c', cur, hv, -, -, hc, -⟩
    · omega
    · injection hv with h1 h2 h3
      omega
  refine ⟨ys, g, c, rfl, fun j => ?_, hlt.1, hlt.2, fun j hj => ?_, hc, hx⟩
  · by_cases hj : j < ys.length
    · have := hall _ (List.getElem_mem hj)
      rw [List.getD_eq_getElem?_getD, List.getElem?_eq_getElem hj]
      exact this
    · rw [List.getD_eq_getElem?_getD, List.getElem?_eq_none (by omega)]
      simp
  · rw [hown.cellAt j hj]
    simp [List.getD, show j < ys.length by omega]
end Go.Proofs.YtckipgijfgeghaaDoor
