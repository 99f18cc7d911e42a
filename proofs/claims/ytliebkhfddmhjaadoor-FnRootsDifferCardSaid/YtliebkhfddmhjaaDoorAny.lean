/- The draws: leaves, right or not. -/
import Derived.Test.YtliebkhfddmhjaaDoorCur3
import Derived.Test.YtliebkhfddmhjaaDoorApp
namespace Go.Proofs.YtliebkhfddmhjaaDoor
open Go.RowKit

theorem fit_snoc {xs : List Leaf} {l : Leaf} (h : LeafFit xs) (h1 : l.name.size ≤ 1000) (h2 : l.value.size ≤ 1000) : LeafFit (xs ++ [l]) := by
  intro x hx
  rw [List.mem_append, List.mem_singleton] at hx
  rcases hx with hx | rfl
  · exact h x hx
  · unfold maxLen; omega
theorem lvs_snoc (xs : List Leaf) (l : Leaf) : (xs ++ [l]).flatMap Leaf.cells = xs.flatMap Leaf.cells ++ l.cells := by simp
theorem lf_one (l : Leaf) : ∀ u ∈ l.cells, u.oneCell' = true := by
  intro u hu
  simp [Leaf.cells] at hu
  rcases hu with rfl | rfl <;> rfl
def odd3 : List ByteArray := [⟨#[]⟩, ⟨#[97, 32, 98]⟩, ⟨#[111, 107]⟩]
theorem odd3_3 : ∀ s ∈ odd3, s.size ≤ 3 := by decide +kernel
set_option maxRecDepth 100000 in
set_option maxHeartbeats 3200000 in
theorem spec_l09Any (b : Nat) (w : World) (h : Cur w b) :
    Calls Tryd.prog 137 #[.pointer (some ⟨b, 0, none⟩)] w fun e w' => ∃ (xs : List Leaf) (a : Option Addr) (c : Nat), e = .returned (.slice a xs.length c) ∧ LeafFit xs ∧ xs.length ≤ 25 ∧ OwnLvs w' w.heap.size (.slice a xs.length c) xs ∧ Cur w' b ∧ Mut b w w' := by
  obtain ⟨i0, hi, hz0, hz1, hz2⟩ := info_parts infoLeaf
  have hb := h.lt
  go_enter Tryd.func137, Tryd.ntmps137
  go_wp2_with fail
  refine (spec_l01Below b 12 _ h (by omega)).mono ?_
  rintro e w1 ⟨k, rfl, hk, C1, M1⟩
  have s1 := M1.size
  go_wp2_with fail
  have C1' : Cur (w1.alloc (Obj.cells #[] 129)) b := C1.ext (by repeat (first | (with_reducible first | exact Ext.refl _ | assumption | apply Ext.alloc | apply Ext.drew | apply Ext.drewN | refine Ext.setCell ?_ ?_ _ | refine Ext.trans ?_ (by assumption)) | (show _ ≤ _; first | omega | (dsimp only; omega) | (simp; done) | (simp; omega))))
  refine (spec_l09Draw b _ C1').mono ?_
  rintro e w2 ⟨xs, a, c, rfl, hok, h8, hown, C2, M2⟩
  have OL := own_grown (World.ownsRow_lit (base := w.heap.size) (e := 129) (size := 2) w1 #[] 0 s1 (Nat.zero_le _) rfl) M2 (fun k hk => by injection hk with hk; omega)
  have M2' : Mut b w w2 := (M1.trans (Mut.of_ext ((Ext.refl w1).alloc (Obj.cells #[] 129)))).trans M2
  have HF := Lib.hid (ok_fit hok)
  have hlen : (xs.flatMap Leaf.cells).length = xs.length * 2 := hown.1
  clear hok C1 C1'
  have HLV := Lib.hid (OwnLvs.lvs hown)
  have HSO := Lib.hid (own_solid hown)
  rcases (show k = 0 ∨ k = 1 ∨ k = 2 ∨ 3 ≤ k by omega) with rfl | rfl | rfl | hk3
  all_goals
    go_wp2_with (at_builtin; refine wpList_append_any rfl (.tmp 8) (.tmp 10) 76 rfl w.heap.size 129 i0 _ 2 32 Tryd.underlying76 hi hz0 hz1 hz2 rfl (by decide) _ _ _ rfl OL _ xs.length (xs.flatMap Leaf.cells) rfl HLV.out HSO.out (leaf_one xs) (by unfold maxLen; omega) (by omega) (by have := M2'.size; omega) ?_)
    intro v' w3 own3 hgrow
    have s2 := M2'.size
    have M3 : Mut b w w3 := M2'.grown hgrow (fun k hk => (own_lt OL k hk).1)
    have C3 : Cur w3 b := C2.grown hgrow (fun k hk => by have := (own_lt OL k hk).1; omega)
    obtain ⟨a', c', rfl⟩ := own_any own3
    have O3 := Lib.hid own3
    have s3 := M3.size
    clear hown own3 hgrow OL HLV HSO
  · go_wp2_with (at_builtin; refine wpList_append_own _ rfl (.tmp 15) (.tmp 17) 76 rfl w.heap.size 129 i0 _ 2 32 Tryd.underlying76 hi hz0 hz1 hz2 rfl (by decide) _ _ _ rfl (O3.out.alloc _) ⟨w3.heap.size, 0, none⟩ 1 1 [.string ⟨#[97, 110, 110]⟩, .string ⟨#[107]⟩] rfl rfl (World.news_of_block (heap_alloc_new w3 _)) (lf_one ⟨⟨#[97, 110, 110]⟩, ⟨#[107]⟩⟩) (by unfold maxLen; omega) (by omega) (by simp; omega) ?_)
    intro v4 w4 own4 hgrow _
    obtain ⟨a4, c4, rfl⟩ := own_any own4
    have O4 := Lib.hid own4
    have M4 : Mut b w w4 := (M3.alloc _).grown hgrow (fun k hk => (own_lt O3.out k hk).1)
    have C4 : Cur w4 b := (C3.ext ((Ext.refl _).alloc _)).grown hgrow (fun k hk => by have := (own_lt O3.out k hk).1; omega)
    clear own4 hgrow
    go_wp2
    go_ret
    exact ⟨xs ++ [⟨⟨#[97, 110, 110]⟩, ⟨#[107]⟩⟩], a4, c4, by simp, fit_snoc HF.out (by decide) (by decide), by simp; omega, by unfold OwnLvs; rw [lvs_snoc, List.length_append]; exact O4.out, C4, M4⟩
  · go_wp2_with fail
    refine (spec_l01Pick b _ odd3 _ (C3.ext (by repeat (first | (with_reducible first | exact Ext.refl _ | assumption | apply Ext.alloc | apply Ext.drew | apply Ext.drewN | refine Ext.setCell ?_ ?_ _ | refine Ext.trans ?_ (by assumption)) | (show _ ≤ _; first | omega | (dsimp only; omega) | (simp; done) | (simp; omega))))) (by exact strs_lit w3 odd3 3 _ _ rfl rfl (by omega)) (own_not C3.lt) (by decide) (by decide)).mono ?_
    rintro e w5 ⟨vl, hvl, rfl, C5, M5⟩
    have hv3 := odd3_3 vl hvl
    clear hvl
    have O5 := Lib.hid (own_grown (O3.out.alloc (Obj.cells #[.string ⟨#[]⟩, .string ⟨#[97, 32, 98]⟩, .string ⟨#[111, 107]⟩] 9)) M5 (fun k hk => by injection hk with hk; omega))
    have M5' : Mut b w w5 := (M3.trans (Mut.of_ext ((Ext.refl w3).alloc (Obj.cells #[.string ⟨#[]⟩, .string ⟨#[97, 32, 98]⟩, .string ⟨#[111, 107]⟩] 9)))).trans M5
    have s5 := M5'.size
    clear O3
    go_wp2_with (at_builtin; refine wpList_append_own _ rfl (.tmp 21) (.tmp 26) 76 rfl w.heap.size 129 i0 _ 2 32 Tryd.underlying76 hi hz0 hz1 hz2 rfl (by decide) _ _ _ rfl (O5.out.alloc _) ⟨w5.heap.size, 0, none⟩ 1 1 [.string ⟨#[122, 111, 101]⟩, .string vl] rfl rfl (World.news_of_block (heap_alloc_new w5 _)) (lf_one ⟨⟨#[122, 111, 101]⟩, vl⟩) (by unfold maxLen; omega) (by omega) (by simp; omega) ?_)
    intro v4 w4 own4 hgrow _
    obtain ⟨a4, c4, rfl⟩ := own_any own4
    have O4 := Lib.hid own4
    have M4 : Mut b w w4 := (M5'.alloc _).grown hgrow (fun k hk => (own_lt O5.out k hk).1)
    have C4 : Cur w4 b := (C5.ext ((Ext.refl _).alloc _)).grown hgrow (fun k hk => by have := (own_lt O5.out k hk).1; omega)
    clear own4 hgrow
    go_wp2
    go_ret
    exact ⟨xs ++ [⟨⟨#[122, 111, 101]⟩, vl⟩], a4, c4, by simp, fit_snoc HF.out (by dsimp only; decide) (by dsimp only; omega), by simp; omega, by unfold OwnLvs; rw [lvs_snoc, List.length_append]; exact O4.out, C4, M4⟩
  · have hcv := conv_lit1
    clear HF O3
    go_wp2
    go_loopw [4, 5] (fun v i wr => ∃ (k : Nat) (zs : List Leaf) (a : Option Addr) (c : Nat), i = .int .i64 k ∧ k ≤ 25 ∧ zs.length = k ∧ v = .slice a zs.length c ∧ LeafFit zs ∧ OwnLvs wr w.heap.size (.slice a zs.length c) zs ∧ Cur wr b ∧ Mut b w wr) (fun _ i _ => 26 - (intOf i).toNat)
    case atStart => exact ⟨0, [], _, _, rfl, by omega, rfl, rfl, (fun l hl => by cases hl), World.ownsRow_lit (e := 129) (size := 2) w3 #[] 0 s3 (Nat.zero_le _) rfl, C3.ext (by repeat (first | (with_reducible first | exact Ext.refl _ | assumption | apply Ext.alloc | apply Ext.drew | apply Ext.drewN | refine Ext.setCell ?_ ?_ _ | refine Ext.trans ?_ (by assumption)) | (show _ ≤ _; first | omega | (dsimp only; omega) | (simp; done) | (simp; omega)))), M3.trans (Mut.of_ext (by repeat (first | (with_reducible first | exact Ext.refl _ | assumption | apply Ext.alloc | apply Ext.drew | apply Ext.drewN | refine Ext.setCell ?_ ?_ _ | refine Ext.trans ?_ (by assumption)) | (show _ ≤ _; first | omega | (dsimp only; omega) | (simp; done) | (simp; omega)))))⟩
    case round =>
      obtain ⟨k, zs, a, c, rfl, hk25, hzk, rfl, hfit, hown, hc, hm⟩ := hrel
      have hsz := hm.size
      have HF := Lib.hid hfit
      have HO := Lib.hid hown
      have HZ := Lib.hid hzk
      have hzl : zs.length ≤ k ∧ k ≤ zs.length := by omega
      clear hfit hown hzk
      go_wp2_with fail
      refine (spec_l01Below b 2 _ hc (by omega)).mono ?_
      rintro e w4 ⟨y, rfl, hy, C4, M4⟩
      have M4' := hm.trans M4
      have O4 := Lib.hid (own_grown HO.out M4 (fun k hk => by injection hk with hk; omega))
      have s4 := M4'.size
      by_cases hlt : (k : Int) < 24 + y
      · have e1 : (97 + (k : Int)) % 256 = 97 + (k : Int) := by omega
        have hz1' : (strOfNums [97 + (k : Int)]).size = 1 := strOfNums_size _
        have hz3 : ((⟨#[110]⟩ : ByteArray) ++ strOfNums [97 + (k : Int)]).size ≤ 1000 := by rw [ByteArray.size_append, hz1']; decide
        have q1 : ¬ (9223372036854775807 < (⟨#[110]⟩ : ByteArray).size + (strOfNums [97 + (k : Int)]).size) := by rw [hz1']; decide
        go_wp2_with (at_builtin; refine wpList_append_own _ rfl (.tmp 38) (.tmp 46) 76 rfl w.heap.size 129 i0 _ 2 32 Tryd.underlying76 hi hz0 hz1 hz2 rfl (by decide) _ _ _ rfl ((O4.out.alloc _).alloc _) ⟨w4.heap.size + 1, 0, none⟩ 1 1 [.string ((⟨#[110]⟩ : ByteArray) ++ strOfNums [97 + (k : Int)]), .string ⟨#[118]⟩] rfl rfl ?c1 (lf_one ⟨(⟨#[110]⟩ : ByteArray) ++ strOfNums [97 + (k : Int)], ⟨#[118]⟩⟩) (by unfold maxLen; omega) (by omega) (by simp; omega) ?_)
        case c1 => exact World.news_of_block (by simpa [World.size_alloc] using heap_alloc_new (w4.alloc (Obj.cells #[.int .u8 (97 + (k : Int))] 5)) (Obj.cells #[.string ((⟨#[110]⟩ : ByteArray) ++ strOfNums [97 + (k : Int)]), .string ⟨#[118]⟩] 129))
        intro v5 w5 own5 hgrow _
        obtain ⟨a5, c5, rfl⟩ := own_any own5
        have O5 := Lib.hid own5
        have M5 : Mut b w w5 := ((M4'.alloc _).alloc _).grown hgrow (fun k hk => (own_lt O4.out k hk).1)
        have C5 : Cur w5 b := ((C4.ext ((Ext.refl _).alloc _)).ext ((Ext.refl _).alloc _)).grown hgrow (fun k hk => by have := (own_lt O4.out k hk).1; omega)
        clear own5 hgrow
        go_wp2
        go_roundw
        case rel => exact ⟨k + 1, zs ++ [⟨(⟨#[110]⟩ : ByteArray) ++ strOfNums [97 + (k : Int)], ⟨#[118]⟩⟩], a5, c5, by go_num, by omega, by rw [List.length_append, HZ.out]; rfl, by simp, fit_snoc HF.out hz3 (by dsimp only; decide), by unfold OwnLvs; rw [lvs_snoc, List.length_append]; exact O5.out, C5, M5⟩
        case measure => simp [intOf]; omega
      · go_wp2
        go_ret
        exact ⟨zs, a, c, rfl, HF.out, by omega, O4.out, C4, M4'⟩
  · have k0 : ¬ k = 0 := by omega
    have k1 : ¬ k = 1 := by omega
    have k2 : ¬ k = 2 := by omega
    go_wp2
    go_ret
    exact ⟨xs, a', c', rfl, HF.out, by omega, O3.out, C3, M3⟩
end Go.Proofs.YtliebkhfddmhjaaDoor
