/- The draws: picks, names, values, leaves. -/
import Derived.Test.YtckipgijfgeghaaDoorCurA
import Derived.Test.YtckipgijfgeghaaDoorStrA
import Derived.Test.YtckipgijfgeghaaDoorPut3
import Derived.Test.YtckipgijfgeghaaDoorNodeP
namespace Go.Proofs.YtckipgijfgeghaaDoor
open Go.RowKit

set_option maxHeartbeats 800000 in
theorem spec_l01Pick (b : Nat) (v : Value) (xs : List ByteArray) (w : World) (h : Cur w b) (hs : Strs w v xs) (hn : v.ownBlock ≠ some b) (hp : 0 < xs.length) (hl : xs.length ≤ 1000) :
    Calls Tryd.prog 49 #[.pointer (some ⟨b, 0, none⟩), v] w fun e w' => ∃ s : ByteArray, s ∈ xs ∧ e = .returned (.string s) ∧ Cur w' b ∧ Mut b w w' := by
  obtain ⟨-, a, c, rfl, hc, hm, hcase⟩ := hs
  rcases hcase with h0 | ⟨g, o, rfl, hg, hcells⟩
  · omega
  go_enter Tryd.func49, Tryd.ntmps49
  go_wp2_with fail
  refine (spec_l01Below b xs.length _ h (by omega)).mono ?_
  rintro e w1 ⟨x, rfl, hx, C1, M1⟩
  obtain ⟨i, rfl⟩ := Int.eq_ofNat_of_zero_le hx.1
  have hi : i < xs.length := by omega
  have hi0 : (0 : Int) ≤ (i : Int) := by omega
  have hi1 : (i : Int) < xs.length := by omega
  have e1 : w1.cell? ⟨g, o + i, none⟩ = some (.string xs[i]) := (M1.cell _ _ hg (fun e => hn (by rw [e]; rfl))).trans (hcells i _ (by simp [hi]))
  have hmem := List.getElem_mem hi
  clear hcells
  go_wp2
  go_ret
  exact ⟨_, hmem, rfl, C1, M1⟩
theorem ints_lit (w : World) (xs : List Int) (n b : Nat) (t : TypeId) (hn : n = xs.length) (hb : b = w.heap.size) (hm : n ≤ 1000) : Row (w.alloc (.cells (xs.map (Value.int .i64)).toArray t)) 1 (.slice (some ⟨b, 0, none⟩) n n) xs.length (xs.map (Value.int .i64)) := by
  subst hn hb
  refine ⟨by simp, some ⟨w.heap.size, 0, none⟩, xs.length, rfl, Nat.le_refl _, by unfold maxLen; omega, Or.inr ⟨w.heap.size, 0, rfl, by simp, fun j u hu => ?_⟩⟩
  rw [cell_of_row _ _ _ _ _ _ (heap_alloc_new w _)]
  simpa using hu
theorem own_not {w : World} {b n c : Nat} (h : b < w.heap.size) : (Value.slice (some ⟨w.heap.size, 0, none⟩) n c).ownBlock ≠ some b := by
  intro e
  injection e with e
  dsimp only at e
  omega

/-- the names that are drawn -/
def nms : List ByteArray := [⟨#[97, 110, 110]⟩, ⟨#[98, 111, 98]⟩, ⟨#[99, 97, 116]⟩, ⟨#[100, 97, 110]⟩, ⟨#[101, 118, 101]⟩, ⟨#[102, 97, 121]⟩, ⟨#[103, 117, 115]⟩, ⟨#[104, 97, 108]⟩, ⟨#[105, 118, 121]⟩, ⟨#[106, 111, 101, 64, 120, 46, 111, 114, 103]⟩, ⟨#[107, 105, 109]⟩, ⟨#[108, 101, 111]⟩]
theorem nms_ok : ∀ s ∈ nms, nameOk s = true := by decide +kernel
set_option maxHeartbeats 800000 in
theorem spec_l04Name (b : Nat) (w : World) (h : Cur w b) :
    Calls Tryd.prog 28 #[.pointer (some ⟨b, 0, none⟩)] w fun e w' => ∃ s : ByteArray, e = .returned (.string s) ∧ nameOk s = true ∧ Cur w' b ∧ Mut b w w' := by
  go_enter Tryd.func28, Tryd.ntmps28
  go_wp2_with fail
  refine (spec_l01Pick b _ nms _ (h.ext (by repeat (first | (with_reducible first | exact Ext.refl _ | assumption | apply Ext.alloc | apply Ext.drew | apply Ext.drewN | refine Ext.setCell ?_ ?_ _ | refine Ext.trans ?_ (by assumption)) | (show _ ≤ _; first | omega | (dsimp only; omega) | (simp; done) | (simp; omega))))) (by exact strs_lit w nms 12 _ _ rfl rfl (by omega)) (own_not h.lt) (by decide) (by decide)).mono ?_
  rintro e w1 ⟨s, hs, rfl, C1, M1⟩
  have M2 : Mut b w w1 := (Mut.of_ext ((Ext.refl w).alloc _)).trans M1
  have HN := Lib.hid (nms_ok s hs)
  clear hs
  go_wp2
  go_ret
  exact ⟨s, rfl, HN.out, C1, M2⟩
def vls : List ByteArray := [⟨#[107, 49]⟩, ⟨#[107, 50]⟩, ⟨#[107, 51]⟩, ⟨#[107, 101, 121, 45, 102, 111, 117, 114]⟩, ⟨#[122]⟩]
theorem vls_ok : ∀ s ∈ vls, valueOk s = true := by decide +kernel
theorem vls_12 : ∀ s ∈ vls, s.size ≤ 12 := by decide +kernel
theorem val_k : valueOk ⟨#[107]⟩ = true := by decide +kernel
set_option maxHeartbeats 800000 in
theorem spec_l09Value (b : Nat) (w : World) (h : Cur w b) :
    Calls Tryd.prog 29 #[.pointer (some ⟨b, 0, none⟩)] w fun e w' => ∃ s : ByteArray, e = .returned (.string s) ∧ valueOk s = true ∧ s.size ≤ 12 ∧ Cur w' b ∧ Mut b w w' := by
  go_enter Tryd.func29, Tryd.ntmps29
  go_wp2_with fail
  refine (spec_l01Pick b _ vls _ (h.ext (by repeat (first | (with_reducible first | exact Ext.refl _ | assumption | apply Ext.alloc | apply Ext.drew | apply Ext.drewN | refine Ext.setCell ?_ ?_ _ | refine Ext.trans ?_ (by assumption)) | (show _ ≤ _; first | omega | (dsimp only; omega) | (simp; done) | (simp; omega))))) (by exact strs_lit w vls 5 _ _ rfl rfl (by omega)) (own_not h.lt) (by decide) (by decide)).mono ?_
  rintro e w1 ⟨s, hs, rfl, C1, M1⟩
  have M2 : Mut b w w1 := (Mut.of_ext ((Ext.refl w).alloc _)).trans M1
  have HN := Lib.hid (vls_ok s hs)
  have HZ := Lib.hid (vls_12 s hs)
  clear hs
  go_wp2
  go_ret
  exact ⟨s, rfl, HN.out, HZ.out, C1, M2⟩
theorem two_filters {α : Type} (p q : α → Bool) (h : ∀ x, p x = true → q x = false) : ∀ l : List α, (l.filter p).length + (l.filter q).length ≤ l.length
  | [] => by simp
  | x :: l => by
    have ih := two_filters p q h l
    by_cases hp : p x = true
    · rw [List.filter_cons_of_pos hp, List.filter_cons_of_neg (by rw [h x hp]; decide)]
      simp only [List.length_cons]
      omega
    · rw [List.filter_cons_of_neg hp]
      by_cases hq : q x = true
      · rw [List.filter_cons_of_pos hq]
        simp only [List.length_cons]
        omega
      · rw [List.filter_cons_of_neg hq]
        simp only [List.length_cons]
        omega
theorem putOut_le (xs : List Leaf) (n u : ByteArray) : (putOut xs n u).length ≤ xs.length + 1 := by
  have h1 := two_filters (isBelow n) (isAbove n) (fun l hl => by unfold isAbove; unfold isBelow at hl; rw [hl]; rfl) (dropOn xs n xs.length)
  have h2 := dropOn_length xs n xs.length
  rw [putOut, List.length_append, List.length_append]
  simp only [List.length_singleton]
  omega
theorem putL_le (xs : List Leaf) (n u : ByteArray) : (putL xs n u).length ≤ xs.length + 1 := by
  rw [putL]
  split
  · exact putOut_le xs n u
  · omega
theorem putL_ok {xs : List Leaf} {n u : ByteArray} (h : leavesOk xs = true) : leavesOk (putL xs n u) = true := by
  rw [putL]
  split
  · next hw =>
    rw [putWell, Bool.and_eq_true] at hw
    exact hw.2
  · exact h
theorem ok_fit {xs : List Leaf} (h : leavesOk xs = true) : LeafFit xs := fun l hl => by
  obtain ⟨a, b⟩ := (leavesOk_small h).2 l hl
  unfold maxLen
  omega
theorem name_12 {s : ByteArray} (h : nameOk s = true) : s.size ≤ 12 := by
  have := (leavesOk_small (xs := [⟨s, ⟨#[107]⟩⟩]) (leavesOk_of (by simp) (fun l hl => by simp at hl; subst hl; exact ⟨h, val_k⟩) (by simp [Srt]))).2 ⟨s, ⟨#[107]⟩⟩ (by simp)
  exact this.1.2
set_option maxRecDepth 100000 in
set_option maxHeartbeats 1600000 in
theorem spec_l09Draw (b : Nat) (w : World) (h : Cur w b) :
    Calls Tryd.prog 14 #[.pointer (some ⟨b, 0, none⟩)] w fun e w' => ∃ (xs : List Leaf) (a : Option Addr) (c : Nat), e = .returned (.slice a xs.length c) ∧ leavesOk xs = true ∧ xs.length ≤ 8 ∧ OwnLvs w' w.heap.size (.slice a xs.length c) xs ∧ Cur w' b ∧ Mut b w w' := by
  have hb := h.lt
  go_enter Tryd.func14, Tryd.ntmps14
  go_wp2
  go_loopw [3, 4] (fun v i wr => ∃ (k : Nat) (xs : List Leaf) (a : Option Addr) (c : Nat), i = .int .i64 k ∧ k ≤ 8 ∧ xs.length ≤ k ∧ v = .slice a xs.length c ∧ leavesOk xs = true ∧ OwnLvs wr w.heap.size (.slice a xs.length c) xs ∧ Cur wr b ∧ Mut b w wr) (fun _ i _ => 9 - (intOf i).toNat)
  case atStart => exact ⟨0, [], _, _, rfl, by omega, Nat.le_refl _, rfl, rfl, World.ownsRow_lit w #[] 0 (Nat.le_refl _) (Nat.zero_le _) rfl, h.ext (by repeat (first | (with_reducible first | exact Ext.refl _ | assumption | apply Ext.alloc | apply Ext.drew | apply Ext.drewN | refine Ext.setCell ?_ ?_ _ | refine Ext.trans ?_ (by assumption)) | (show _ ≤ _; first | omega | (dsimp only; omega) | (simp; done) | (simp; omega)))), Mut.of_ext (by repeat (first | (with_reducible first | exact Ext.refl _ | assumption | apply Ext.alloc | apply Ext.drew | apply Ext.drewN | refine Ext.setCell ?_ ?_ _ | refine Ext.trans ?_ (by assumption)) | (show _ ≤ _; first | omega | (dsimp only; omega) | (simp; done) | (simp; omega))))⟩
  case round =>
    obtain ⟨k, xs, a, c, rfl, hk8, hxk, rfl, hok, hown, hc, hm⟩ := hrel
    have hsz := hm.size
    have HO := Lib.hid hown
    have HK := Lib.hid hok
    clear hown hok
    go_wp2_with fail
    refine (spec_l01Below b 9 _ hc (by omega)).mono ?_
    rintro e w2 ⟨y, rfl, hy, C2, M2⟩
    have M2' := hm.trans M2
    have O2 := Lib.hid (own_grown HO.out M2 (fun k hk => by injection hk with hk; omega))
    by_cases hlt : (k : Int) < y
    · go_wp2_with fail
      refine (spec_l04Name b _ C2).mono ?_
      rintro e w3 ⟨nm, rfl, hnm, C3, M3⟩
      have M3' := M2'.trans M3
      have O3 := Lib.hid (own_grown O2.out M3 (fun k hk => by injection hk with hk; omega))
      have hnz := name_12 hnm
      clear hnm
      go_wp2_with fail
      refine (spec_l09Value b _ C3).mono ?_
      rintro e w4 ⟨vl, rfl, -, hvz, C4, M4⟩
      have M4' := M3'.trans M4
      have O4 := Lib.hid (own_grown O3.out M4 (fun k hk => by injection hk with hk; omega))
      have hs4 := M4'.size
      go_wp2_with fail
      refine (spec_LeafPut _ xs nm vl _ (OwnLvs.lvs O4.out) (own_solid O4.out) (ok_fit HK.out) (by unfold maxLen; omega) (by unfold maxLen; omega) (by omega)).mono ?_
      rintro e w5 ⟨a', c', rfl, hown5, x5⟩
      have O5 := Lib.hid (own_mono hown5 hs4)
      have HK5 := Lib.hid (putL_ok (n := nm) (u := vl) HK.out)
      have hle := putL_le xs nm vl
      have C5 := C4.ext x5
      have M5 := M4'.trans (Mut.of_ext x5)
      clear hown5
      generalize putL xs nm vl = zs at *
      generalize putWell xs nm vl = zb at *
      go_wp2
      go_roundw
      case rel => exact ⟨k + 1, zs, a', c', by go_num, by omega, by omega, rfl, HK5.out, O5.out, C5, M5⟩
      case measure => simp [intOf]; omega
    · go_wp2
      go_ret
      exact ⟨xs, a, c, rfl, HK.out, by omega, O2.out, C2, M2'⟩
set_option maxHeartbeats 800000 in
theorem spec_DrawLeaves (v : Value) (bs : List Int) (w : World) (h : Code w w.heap.size v bs) (hl : bs.length ≤ 1048576) :
    Calls Tryd.prog 5 #[v] w fun e w' => ∃ (xs : List Leaf) (a : Option Addr) (c : Nat), e = .returned (.slice a xs.length c) ∧ leavesOk xs = true ∧ xs.length ≤ 8 ∧ OwnLvs w' w.heap.size (.slice a xs.length c) xs ∧ Ext w w' := by
  go_enter Tryd.func5, Tryd.ntmps5
  go_wp2_with fail
  refine (spec_l01New v bs _ h hl).mono ?_
  rintro e w1 ⟨rfl, C1, x1⟩
  have s1 := x1.size
  go_wp2_with fail
  refine (spec_l09Draw _ _ C1).mono ?_
  rintro e w2 ⟨xs, a, c, rfl, hok, h8, hown, C2, M2⟩
  have HK := Lib.hid hok
  have HO := Lib.hid (own_mono hown s1)
  have X2 := x1.mut M2 (Nat.le_refl _)
  clear hok hown
  go_wp2
  go_ret
  exact ⟨xs, a, c, rfl, HK.out, h8, HO.out, X2⟩
end Go.Proofs.YtckipgijfgeghaaDoor
