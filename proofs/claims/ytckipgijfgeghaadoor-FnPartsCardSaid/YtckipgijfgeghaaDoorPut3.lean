/- Leaves put: the reference's walk. -/
import Derived.Test.YtckipgijfgeghaaDoorPutA
import Derived.Maps.AppendAt
import Derived.Test.YtckipgijfgeghaaDoorStrA
namespace Go.Proofs.YtckipgijfgeghaaDoor
open Go.RowKit

/-- some leaves, and behind them those of the first k that p takes -/
def FO (pre rs : List Leaf) (p : Leaf → Bool) (k : Nat) : List Leaf := pre ++ (rs.take k).filter p
theorem FO_zero (pre rs : List Leaf) (p : Leaf → Bool) : FO pre rs p 0 = pre := by simp [FO]
theorem FO_keep (pre : List Leaf) {rs : List Leaf} {p : Leaf → Bool} {k : Nat} (h : k < rs.length) (e : p rs[k] = true) : FO pre rs p (k + 1) = FO pre rs p k ++ [rs[k]] := by
  unfold FO
  rw [List.take_succ_eq_append_getElem h, List.filter_append]
  simp [e]
theorem FO_skip (pre : List Leaf) {rs : List Leaf} {p : Leaf → Bool} {k : Nat} (h : k < rs.length) (e : p rs[k] = false) : FO pre rs p (k + 1) = FO pre rs p k := by
  unfold FO
  rw [List.take_succ_eq_append_getElem h, List.filter_append]
  simp [e]
theorem FO_length (pre rs : List Leaf) (p : Leaf → Bool) (k : Nat) : (FO pre rs p k).length ≤ pre.length + k := by
  unfold FO
  rw [List.length_append]
  have h1 := List.length_filter_le p (rs.take k)
  have h2 : (rs.take k).length ≤ k := by simp; omega
  omega

set_option maxHeartbeats 3200000 in
theorem spec_LeafPut (v : Value) (xs : List Leaf) (n u : ByteArray) (w : World) (h : Lvs w v xs) (hv : Solid v) (hf : LeafFit xs) (hn : n.size ≤ maxLen) (hu : u.size ≤ maxLen) (hb : xs.length ≤ 1099511627776) :
    Calls Tryd.prog 27 #[v, .string n, .string u] w fun e w' => ∃ a c, e = .returned (.tuple #[.slice a (putL xs n u).length c, .bool (putWell xs n u)]) ∧ OwnLvs w' w.heap.size (.slice a (putL xs n u).length c) (putL xs n u) ∧ Ext w w' := by
  obtain ⟨i0, hi, hz0, hz1, hz2⟩ := info_parts infoLeaf
  have hlen := lvs_flat h
  obtain ⟨-, a1, c1, he, hc1, hm1, -⟩ := id h
  subst he
  unfold maxLen at hm1
  have hrl := dropOn_length xs n xs.length
  have hPO : FO (FO [] (dropOn xs n xs.length) (isBelow n) (dropOn xs n xs.length).length ++ [⟨n, u⟩]) (dropOn xs n xs.length) (isAbove n) (dropOn xs n xs.length).length = putOut xs n u := by
    unfold FO putOut
    rw [List.take_length, List.nil_append]
  go_enter Tryd.func27, Tryd.ntmps27
  go_wp2_with fail
  refine (spec_l09Without _ xs n _ (h.ext (by repeat (first | (with_reducible first | exact Ext.refl _ | assumption | apply Ext.alloc | apply Ext.drew | apply Ext.drewN | refine Ext.setCell ?_ ?_ _ | refine Ext.trans ?_ (by assumption)) | (show _ ≤ _; first | omega | (dsimp only; omega) | (simp; done) | (simp; omega))))) hb).mono ?_
  rintro e w1 ⟨ar, cr, rfl, or, x1⟩
  generalize hrs : dropOn xs n xs.length = rs at *
  clear hrs
  have hlr := or.lvs
  have hol := own_lt or
  have hrb : ∀ g, (Value.slice ar rs.length cr).ownBlock = some g → g < w1.heap.size := fun g hg => (hol g hg).2
  have hof0 : Off (.slice (some ⟨w.heap.size, 0, none⟩) 0 0) (.slice ar rs.length cr) := by
    intro g hg hr
    have := (hol g hr).1
    simp only [World.size_alloc, Value.ownBlock, Option.some.injEq] at this hg
    omega
  have hown0 : w1.ownsRow w.heap.size 34 2 (.slice (some ⟨w.heap.size, 0, none⟩) 0 0) 0 [] := own_ext (World.ownsRow_lit w #[] 0 (Nat.le_refl _) (Nat.zero_le _) rfl) x1
  have hx1 : Ext w w1 := (by repeat (first | (with_reducible first | exact Ext.refl _ | assumption | apply Ext.alloc | apply Ext.drew | apply Ext.drewN | refine Ext.setCell ?_ ?_ _ | refine Ext.trans ?_ (by assumption)) | (show _ ≤ _; first | omega | (dsimp only; omega) | (simp; done) | (simp; omega))))
  have hB : w1.heap.size ≤ w1.heap.size := Nat.le_refl _
  obtain ⟨B, hBe⟩ : ∃ B, B = w1.heap.size := ⟨_, rfl⟩
  rw [← hBe] at hrb
  replace hB : B ≤ w1.heap.size := Nat.le_of_eq hBe
  clear hBe
  generalize hPRE : FO [] rs (isBelow n) rs.length ++ [⟨n, u⟩] = PRE at *
  clear or hol x1
  go_wp2_with fail
  go_loopw [8, 10] (fun v i wr => ∃ k : Nat, k ≤ rs.length ∧ i = .int .i64 k ∧ wr.ownsRow w.heap.size 34 2 v (FO [] rs (isBelow n) k).length ((FO [] rs (isBelow n) k).flatMap Leaf.cells) ∧ Off v (.slice ar rs.length cr) ∧ Lvs wr (.slice ar rs.length cr) rs ∧ B ≤ wr.heap.size ∧ Ext w wr) (fun _ i _ => rs.length - (intOf i).toNat)
  case atStart => exact ⟨0, Nat.zero_le _, rfl, hown0, hof0, hlr, hB, hx1⟩
  case round =>
    clear hown0 hof0 hlr hB hx1
    obtain ⟨k, hk, rfl, hown, hoff, hr, hzz, hx⟩ := hrel
    obtain ⟨a, c, rfl⟩ := own_any hown
    have hsz := hx.size
    have hfl := FO_length [] rs (isBelow n) k
    simp only [List.length_nil] at hfl
    by_cases hlt : k < rs.length
    · obtain ⟨-, a2, c2, he2, hc2, hm2, g2⟩ := id hr
      injection he2 with e1 e2 e3
      subst e1 e3
      unfold maxLen at hm2
      rcases g2 with g2 | ⟨b2, o2, rfl, hb2, g2⟩
      · omega
      have e1 : wr.cell? ⟨b2, o2 + k * 2, none⟩ = some (.string rs[k].name) := g2 _ _ (leaf_c0 rs k hlt)
      have e3 : wr.cell? ⟨b2, o2 + k * 2 + 1, none⟩ = some (.string rs[k].value) := g2 _ _ (leaf_c1 rs k hlt)
      clear g2 e2
      cases hls : Op.bytesLess rs[k].name.toList n.toList
      · have HU := Lib.hid (FO_skip [] (p := isBelow n) hlt hls)
        have HO := Lib.hid hown
        clear hown
        go_wp2
        go_roundw
        case rel => exact ⟨k + 1, by omega, by go_num, by rw [HU.out]; exact HO.out, hoff, hr, hzz, (by repeat (first | (with_reducible first | exact Ext.refl _ | assumption | apply Ext.alloc | apply Ext.drew | apply Ext.drewN | refine Ext.setCell ?_ ?_ _ | refine Ext.trans ?_ (by assumption)) | (show _ ≤ _; first | omega | (dsimp only; omega) | (simp; done) | (simp; omega))))⟩
        case measure => simp [intOf]; omega
      · have HU := Lib.hid (FO_keep [] (p := isBelow n) hlt hls)
        go_wp2_with (at_builtin; refine wpList_append_own_at _ rfl (.tmp 29) (.tmp 34) 24 rfl w.heap.size 34 i0 _ 2 32 Tryd.underlying24 hi hz0 hz1 hz2 rfl (by decide) _ _ _ rfl (hown.alloc _) ⟨wr.heap.size, 0, none⟩ 1 1 [.string rs[k].name, .string rs[k].value] rfl rfl ?c1 ?c2 ?c3 ?c4 ?c5 ?_)
        case c1 =>
          have hh := heap_alloc_new wr (Obj.cells #[Value.string rs[k].name, Value.string rs[k].value] 34)
          exact World.news_of_block hh
        case c2 => intro u hu; simp at hu; rcases hu with rfl | rfl <;> rfl
        case c3 => unfold maxLen; omega
        case c4 => omega
        case c5 => simp; omega
        intro v' w3 hown' hgrow _ hat
        have hx3 : Ext w w3 := own_ext_of (hx.alloc _) (hown.alloc _) hgrow (Nat.le_refl _)
        have hr3 : Lvs w3 _ rs := row_grown (Row.ext hr ((Ext.refl wr).alloc _)) hgrow hoff
        have hoff3 : Off v' _ := off_next hoff hat (fun g hg => by have := hrb g hg; simp; omega)
        have hzz3 : B ≤ w3.heap.size := by have := hgrow.size; simp at this; omega
        obtain ⟨a', c', rfl⟩ := own_any hown'
        have HO := Lib.hid hown'
        have HR := Lib.hid hr3
        clear hown' hgrow hown hat hr3
        go_wp2
        go_roundw
        case rel => exact ⟨k + 1, by omega, by go_num, by rw [HU.out, List.length_append, List.flatMap_append]; simpa [Leaf.cells] using HO.out, hoff3, HR.out, hzz3, hx3⟩
        case measure => simp [intOf]; omega
    · have hkn : k = rs.length := by omega
      subst hkn
      go_wp2_with (at_builtin; refine wpList_append_own_at _ rfl (.tmp 36) (.tmp 40) 24 rfl w.heap.size 34 i0 _ 2 32 Tryd.underlying24 hi hz0 hz1 hz2 rfl (by decide) _ _ _ rfl (hown.alloc _) ⟨wr.heap.size, 0, none⟩ 1 1 [.string n, .string u] rfl rfl ?c1 ?c2 ?c3 ?c4 ?c5 ?_)
      case c1 =>
        have hh := heap_alloc_new wr (Obj.cells #[Value.string n, Value.string u] 34)
        exact World.news_of_block hh
      case c2 => intro u hu; simp at hu; rcases hu with rfl | rfl <;> rfl
      case c3 => unfold maxLen; omega
      case c4 => omega
      case c5 => simp; omega
      intro v' w3 hown' hgrow _ hat
      have hx3 : Ext w w3 := own_ext_of (hx.alloc _) (hown.alloc _) hgrow (Nat.le_refl _)
      have hr3 : Lvs w3 (.slice ar rs.length cr) rs := row_grown (Row.ext hr ((Ext.refl wr).alloc _)) hgrow hoff
      have hoff3 : Off v' (.slice ar rs.length cr) := off_next hoff hat (fun g hg => by have := hrb g hg; simp; omega)
      have hzz3 : B ≤ w3.heap.size := by have := hgrow.size; simp at this; omega
      have hlp : PRE.length ≤ rs.length + 1 := by rw [← hPRE, List.length_append, List.length_singleton]; simp at hfl; omega
      have hown3 : w3.ownsRow w.heap.size 34 2 v' PRE.length (PRE.flatMap Leaf.cells) := by
        rw [← hPRE, List.length_append, List.flatMap_append]
        simpa [Leaf.cells] using hown'
      obtain ⟨a', c', rfl⟩ := own_any hown3
      have HO := Lib.hid hown3
      have HR := Lib.hid hr3
      clear hown' hgrow hown hat hr3 hr hoff hown3
      go_wp2_with fail
      go_loopw [8, 11] (fun v i wr => ∃ k : Nat, k ≤ rs.length ∧ i = .int .i64 k ∧ wr.ownsRow w.heap.size 34 2 v (FO PRE rs (isAbove n) k).length ((FO PRE rs (isAbove n) k).flatMap Leaf.cells) ∧ Off v (.slice ar rs.length cr) ∧ Lvs wr (.slice ar rs.length cr) rs ∧ B ≤ wr.heap.size ∧ Ext w wr) (fun _ i _ => rs.length - (intOf i).toNat)
      case atStart => exact ⟨0, Nat.zero_le _, rfl, by rw [FO_zero]; exact HO.out, hoff3, HR.out, hzz3, hx3⟩
      case round =>
        clear HO HR hoff3 hzz3 hx3 hfl hzz hx hk hlt
        obtain ⟨k, hk, rfl, hown, hoff, hr, hzz, hx⟩ := hrel
        obtain ⟨a, c, rfl⟩ := own_any hown
        have hsz := hx.size
        have hfl := FO_length PRE rs (isAbove n) k
        skip
        by_cases hlt : k < rs.length
        · obtain ⟨-, a2, c2, he2, hc2, hm2, g2⟩ := id hr
          injection he2 with e1 e2 e3
          subst e1 e3
          unfold maxLen at hm2
          rcases g2 with g2 | ⟨b2, o2, rfl, hb2, g2⟩
          · omega
          have e1 : wr.cell? ⟨b2, o2 + k * 2, none⟩ = some (.string rs[k].name) := g2 _ _ (leaf_c0 rs k hlt)
          have e3 : wr.cell? ⟨b2, o2 + k * 2 + 1, none⟩ = some (.string rs[k].value) := g2 _ _ (leaf_c1 rs k hlt)
          clear g2 e2
          cases hls : Op.bytesLess rs[k].name.toList n.toList
          · by_cases hq : rs[k].name = n
            · have hqb : (rs[k].name.toList == n.toList) = true := by rw [toList_beq]; simp [hq]
              clear hq
              have HU := Lib.hid (FO_skip PRE (p := isAbove n) hlt (by simp only [isAbove, lss]; rw [hls, hqb]; rfl))
              have HO := Lib.hid hown
              clear hown
              go_wp2
              go_roundw
              case rel => exact ⟨k + 1, by omega, by go_num, by rw [HU.out]; exact HO.out, hoff, hr, hzz, (by repeat (first | (with_reducible first | exact Ext.refl _ | assumption | apply Ext.alloc | apply Ext.drew | apply Ext.drewN | refine Ext.setCell ?_ ?_ _ | refine Ext.trans ?_ (by assumption)) | (show _ ≤ _; first | omega | (dsimp only; omega) | (simp; done) | (simp; omega))))⟩
              case measure => simp [intOf]; omega
            · have hqb : (rs[k].name.toList == n.toList) = false := by rw [toList_beq]; simp [hq]
              clear hq
              have HU := Lib.hid (FO_keep PRE (p := isAbove n) hlt (by simp only [isAbove, lss]; rw [hls, hqb]; rfl))
              go_wp2_with (at_builtin; refine wpList_append_own_at _ rfl (.tmp 55) (.tmp 60) 24 rfl w.heap.size 34 i0 _ 2 32 Tryd.underlying24 hi hz0 hz1 hz2 rfl (by decide) _ _ _ rfl (hown.alloc _) ⟨wr.heap.size, 0, none⟩ 1 1 [.string rs[k].name, .string rs[k].value] rfl rfl ?c1 ?c2 ?c3 ?c4 ?c5 ?_)
              case c1 =>
                have hh := heap_alloc_new wr (Obj.cells #[Value.string rs[k].name, Value.string rs[k].value] 34)
                exact World.news_of_block hh
              case c2 => intro u hu; simp at hu; rcases hu with rfl | rfl <;> rfl
              case c3 => unfold maxLen; omega
              case c4 => omega
              case c5 => simp; omega
              intro v' w3 hown' hgrow _ hat
              have hx3 : Ext w w3 := own_ext_of (hx.alloc _) (hown.alloc _) hgrow (Nat.le_refl _)
              have hr3 : Lvs w3 _ rs := row_grown (Row.ext hr ((Ext.refl wr).alloc _)) hgrow hoff
              have hoff3 : Off v' _ := off_next hoff hat (fun g hg => by have := hrb g hg; simp; omega)
              have hzz3 : B ≤ w3.heap.size := by have := hgrow.size; simp at this; omega
              obtain ⟨a', c', rfl⟩ := own_any hown'
              have HO := Lib.hid hown'
              have HR := Lib.hid hr3
              clear hown' hgrow hown hat hr3
              go_wp2
              go_roundw
              case rel => exact ⟨k + 1, by omega, by go_num, by rw [HU.out, List.length_append, List.flatMap_append]; simpa [Leaf.cells] using HO.out, hoff3, HR.out, hzz3, hx3⟩
              case measure => simp [intOf]; omega
          · have HU := Lib.hid (FO_skip PRE (p := isAbove n) hlt (by simp only [isAbove, lss]; rw [hls]; rfl))
            have HO := Lib.hid hown
            clear hown
            go_wp2
            go_roundw
            case rel => exact ⟨k + 1, by omega, by go_num, by rw [HU.out]; exact HO.out, hoff, hr, hzz, (by repeat (first | (with_reducible first | exact Ext.refl _ | assumption | apply Ext.alloc | apply Ext.drew | apply Ext.drewN | refine Ext.setCell ?_ ?_ _ | refine Ext.trans ?_ (by assumption)) | (show _ ≤ _; first | omega | (dsimp only; omega) | (simp; done) | (simp; omega))))⟩
            case measure => simp [intOf]; omega
        · have hkn : k = rs.length := by omega
          subst hkn
          rw [hPO] at hown ⊢
          have hlv : Lvs wr (.slice a (putOut xs n u).length c) (putOut xs n u) := Row.of_owns hown
          have HO := Lib.hid hown
          clear hown hoff hr
          cases hk : leavesOk xs
          · have hw : putWell xs n u = false := by rw [putWell, hk]; rfl
            have R := Lib.hid (put_no hw)
            have HW := Lib.hid hw
            have HK := Lib.hid hk
            clear hw hk
            rcases hv with hv | ⟨b, o, n', c9, hv⟩
            · injection hv with e1 e2 e3
              have hx0 : xs = [] := List.eq_nil_of_length_eq_zero e2
              have HX := Lib.hid hx0
              subst e1 e3
              rw [e2] at h ⊢
              clear hlen hx0 e2 hc1 hm1
              go_wp2_with fail
              refine (spec_LeavesOk _ xs _ (h.ext (by repeat (first | (with_reducible first | exact Ext.refl _ | assumption | apply Ext.alloc | apply Ext.drew | apply Ext.drewN | refine Ext.setCell ?_ ?_ _ | refine Ext.trans ?_ (by assumption)) | (show _ ≤ _; first | omega | (dsimp only; omega) | (simp; done) | (simp; omega))))) hf).mono ?_
              rw [HK.out]
              rintro e wk ⟨rfl, xk⟩
              go_wp2_with ((at_builtin; refine wpList_append_own_none rfl (.tmp 70) (.tmp 71) 24 rfl wk.heap.size 34 i0 2 Tryd.underlying24 hi _ _ [] rfl (World.ownsRow_lit wk #[] 0 (Nat.le_refl _) (Nat.zero_le _) rfl) rfl ?_))
              go_ret2
              have hlit : (wk.alloc (Obj.cells #[] 34)).ownsRow wk.heap.size 34 2 (.slice (some ⟨wk.heap.size, 0, none⟩) 0 0) 0 [] := World.ownsRow_lit wk #[] 0 (Nat.le_refl _) (Nat.zero_le _) rfl
              obtain ⟨a3, c3, h3, h4⟩ := ret_own (ys := []) (b := false) rfl (R.out.trans HX.out) HW.out hlit
              exact ⟨a3, c3, h3, own_mono h4 (Ext.size (show Ext w wk from (by repeat (first | (with_reducible first | exact Ext.refl _ | assumption | apply Ext.alloc | apply Ext.drew | apply Ext.drewN | refine Ext.setCell ?_ ?_ _ | refine Ext.trans ?_ (by assumption)) | (show _ ≤ _; first | omega | (dsimp only; omega) | (simp; done) | (simp; omega)))))), (by repeat (first | (with_reducible first | exact Ext.refl _ | assumption | apply Ext.alloc | apply Ext.drew | apply Ext.drewN | refine Ext.setCell ?_ ?_ _ | refine Ext.trans ?_ (by assumption)) | (show _ ≤ _; first | omega | (dsimp only; omega) | (simp; done) | (simp; omega))))⟩
            · injection hv with e1 e2 e3
              subst e1 e2 e3
              go_wp2_with fail
              refine (spec_LeavesOk _ xs _ (h.ext (by repeat (first | (with_reducible first | exact Ext.refl _ | assumption | apply Ext.alloc | apply Ext.drew | apply Ext.drewN | refine Ext.setCell ?_ ?_ _ | refine Ext.trans ?_ (by assumption)) | (show _ ≤ _; first | omega | (dsimp only; omega) | (simp; done) | (simp; omega))))) hf).mono ?_
              rw [HK.out]
              rintro e wk ⟨rfl, xk⟩
              go_wp2_with ((at_builtin; refine wpList_append_own _ rfl (.tmp 70) (.tmp 71) 24 rfl wk.heap.size 34 i0 _ 2 32 Tryd.underlying24 hi hz0 hz1 hz2 rfl (by decide) _ 0 [] rfl (World.ownsRow_lit wk #[] 0 (Nat.le_refl _) (Nat.zero_le _) rfl) ⟨b, o, none⟩ xs.length _ (xs.flatMap Leaf.cells) rfl hlen (cells_news (lvs_news (h.ext (by repeat (first | (with_reducible first | exact Ext.refl _ | assumption | apply Ext.alloc | apply Ext.drew | apply Ext.drewN | refine Ext.setCell ?_ ?_ _ | refine Ext.trans ?_ (by assumption)) | (show _ ≤ _; first | omega | (dsimp only; omega) | (simp; done) | (simp; omega))))))) (leaf_one xs) ?c3 ?c4 ?c5 ?_))
              case c3 => unfold maxLen; omega
              case c4 => omega
              case c5 => simp
              intro v' w8 hown' hgrow _
              have hx8 : Ext wk w8 := own_ext_of ((Ext.refl wk).alloc _) (World.ownsRow_lit (base := wk.heap.size) (e := 34) (size := 2) wk #[] 0 (Nat.le_refl _) (Nat.zero_le _) rfl) hgrow (Nat.le_refl _)
              obtain ⟨a', c', rfl⟩ := own_any hown'
              have HO8 := Lib.hid hown'
              clear hown' hgrow
              go_wp2
              go_ret2
              obtain ⟨a3, c3, h3, h4⟩ := ret_own (b := false) rfl R.out HW.out HO8.out
              exact ⟨a3, c3, h3, own_mono h4 (Ext.size (show Ext w wk from (by repeat (first | (with_reducible first | exact Ext.refl _ | assumption | apply Ext.alloc | apply Ext.drew | apply Ext.drewN | refine Ext.setCell ?_ ?_ _ | refine Ext.trans ?_ (by assumption)) | (show _ ≤ _; first | omega | (dsimp only; omega) | (simp; done) | (simp; omega)))))), (by repeat (first | (with_reducible first | exact Ext.refl _ | assumption | apply Ext.alloc | apply Ext.drew | apply Ext.drewN | refine Ext.setCell ?_ ?_ _ | refine Ext.trans ?_ (by assumption)) | (show _ ≤ _; first | omega | (dsimp only; omega) | (simp; done) | (simp; omega))))⟩
          · cases hk2 : leavesOk (putOut xs n u)
            · have hw : putWell xs n u = false := by rw [putWell, hk2]; simp
              have R := Lib.hid (put_no hw)
              have HW := Lib.hid hw
              have HK := Lib.hid hk
              have HK2 := Lib.hid hk2
              clear hw hk hk2
              rcases hv with hv | ⟨b, o, n', c9, hv⟩
              · injection hv with e1 e2 e3
                have hx0 : xs = [] := List.eq_nil_of_length_eq_zero e2
                have HX := Lib.hid hx0
                subst e1 e3
                rw [e2] at h ⊢
                clear hlen hx0 e2 hc1 hm1
                go_wp2_with fail
                refine (spec_LeavesOk _ xs _ (h.ext (by repeat (first | (with_reducible first | exact Ext.refl _ | assumption | apply Ext.alloc | apply Ext.drew | apply Ext.drewN | refine Ext.setCell ?_ ?_ _ | refine Ext.trans ?_ (by assumption)) | (show _ ≤ _; first | omega | (dsimp only; omega) | (simp; done) | (simp; omega))))) hf).mono ?_
                rw [HK.out]
                rintro e wk ⟨rfl, xk⟩
                go_wp2_with fail
                refine (spec_LeavesOk _ (putOut xs n u) _ (hlv.ext (by repeat (first | (with_reducible first | exact Ext.refl _ | assumption | apply Ext.alloc | apply Ext.drew | apply Ext.drewN | refine Ext.setCell ?_ ?_ _ | refine Ext.trans ?_ (by assumption)) | (show _ ≤ _; first | omega | (dsimp only; omega) | (simp; done) | (simp; omega))))) (putFit hf hn hu)).mono ?_
                rw [HK2.out]
                rintro e wm ⟨rfl, xm⟩
                go_wp2_with ((at_builtin; refine wpList_append_own_none rfl (.tmp 70) (.tmp 71) 24 rfl wm.heap.size 34 i0 2 Tryd.underlying24 hi _ _ [] rfl (World.ownsRow_lit wm #[] 0 (Nat.le_refl _) (Nat.zero_le _) rfl) rfl ?_))
                go_ret2
                have hlit : (wm.alloc (Obj.cells #[] 34)).ownsRow wm.heap.size 34 2 (.slice (some ⟨wm.heap.size, 0, none⟩) 0 0) 0 [] := World.ownsRow_lit wm #[] 0 (Nat.le_refl _) (Nat.zero_le _) rfl
                obtain ⟨a3, c3, h3, h4⟩ := ret_own (ys := []) (b := false) rfl (R.out.trans HX.out) HW.out hlit
                exact ⟨a3, c3, h3, own_mono h4 (Ext.size (show Ext w wm from (by repeat (first | (with_reducible first | exact Ext.refl _ | assumption | apply Ext.alloc | apply Ext.drew | apply Ext.drewN | refine Ext.setCell ?_ ?_ _ | refine Ext.trans ?_ (by assumption)) | (show _ ≤ _; first | omega | (dsimp only; omega) | (simp; done) | (simp; omega)))))), (by repeat (first | (with_reducible first | exact Ext.refl _ | assumption | apply Ext.alloc | apply Ext.drew | apply Ext.drewN | refine Ext.setCell ?_ ?_ _ | refine Ext.trans ?_ (by assumption)) | (show _ ≤ _; first | omega | (dsimp only; omega) | (simp; done) | (simp; omega))))⟩
              · injection hv with e1 e2 e3
                subst e1 e2 e3
                go_wp2_with fail
                refine (spec_LeavesOk _ xs _ (h.ext (by repeat (first | (with_reducible first | exact Ext.refl _ | assumption | apply Ext.alloc | apply Ext.drew | apply Ext.drewN | refine Ext.setCell ?_ ?_ _ | refine Ext.trans ?_ (by assumption)) | (show _ ≤ _; first | omega | (dsimp only; omega) | (simp; done) | (simp; omega))))) hf).mono ?_
                rw [HK.out]
                rintro e wk ⟨rfl, xk⟩
                go_wp2_with fail
                refine (spec_LeavesOk _ (putOut xs n u) _ (hlv.ext (by repeat (first | (with_reducible first | exact Ext.refl _ | assumption | apply Ext.alloc | apply Ext.drew | apply Ext.drewN | refine Ext.setCell ?_ ?_ _ | refine Ext.trans ?_ (by assumption)) | (show _ ≤ _; first | omega | (dsimp only; omega) | (simp; done) | (simp; omega))))) (putFit hf hn hu)).mono ?_
                rw [HK2.out]
                rintro e wm ⟨rfl, xm⟩
                go_wp2_with ((at_builtin; refine wpList_append_own _ rfl (.tmp 70) (.tmp 71) 24 rfl wm.heap.size 34 i0 _ 2 32 Tryd.underlying24 hi hz0 hz1 hz2 rfl (by decide) _ 0 [] rfl (World.ownsRow_lit wm #[] 0 (Nat.le_refl _) (Nat.zero_le _) rfl) ⟨b, o, none⟩ xs.length _ (xs.flatMap Leaf.cells) rfl hlen (cells_news (lvs_news (h.ext (by repeat (first | (with_reducible first | exact Ext.refl _ | assumption | apply Ext.alloc | apply Ext.drew | apply Ext.drewN | refine Ext.setCell ?_ ?_ _ | refine Ext.trans ?_ (by assumption)) | (show _ ≤ _; first | omega | (dsimp only; omega) | (simp; done) | (simp; omega))))))) (leaf_one xs) ?c3 ?c4 ?c5 ?_))
                case c3 => unfold maxLen; omega
                case c4 => omega
                case c5 => simp
                intro v' w8 hown' hgrow _
                have hx8 : Ext wm w8 := own_ext_of ((Ext.refl wm).alloc _) (World.ownsRow_lit (base := wm.heap.size) (e := 34) (size := 2) wm #[] 0 (Nat.le_refl _) (Nat.zero_le _) rfl) hgrow (Nat.le_refl _)
                obtain ⟨a', c', rfl⟩ := own_any hown'
                have HO8 := Lib.hid hown'
                clear hown' hgrow
                go_wp2
                go_ret2
                obtain ⟨a3, c3, h3, h4⟩ := ret_own (b := false) rfl R.out HW.out HO8.out
                exact ⟨a3, c3, h3, own_mono h4 (Ext.size (show Ext w wm from (by repeat (first | (with_reducible first | exact Ext.refl _ | assumption | apply Ext.alloc | apply Ext.drew | apply Ext.drewN | refine Ext.setCell ?_ ?_ _ | refine Ext.trans ?_ (by assumption)) | (show _ ≤ _; first | omega | (dsimp only; omega) | (simp; done) | (simp; omega)))))), (by repeat (first | (with_reducible first | exact Ext.refl _ | assumption | apply Ext.alloc | apply Ext.drew | apply Ext.drewN | refine Ext.setCell ?_ ?_ _ | refine Ext.trans ?_ (by assumption)) | (show _ ≤ _; first | omega | (dsimp only; omega) | (simp; done) | (simp; omega))))⟩
            · have hw : putWell xs n u = true := by rw [putWell, hk, hk2]; rfl
              have R := Lib.hid (put_yes hw)
              have HW := Lib.hid hw
              have HK := Lib.hid hk
              have HK2 := Lib.hid hk2
              clear hw hk hk2
              go_wp2_with fail
              refine (spec_LeavesOk _ xs _ (h.ext (by repeat (first | (with_reducible first | exact Ext.refl _ | assumption | apply Ext.alloc | apply Ext.drew | apply Ext.drewN | refine Ext.setCell ?_ ?_ _ | refine Ext.trans ?_ (by assumption)) | (show _ ≤ _; first | omega | (dsimp only; omega) | (simp; done) | (simp; omega))))) hf).mono ?_
              rw [HK.out]
              rintro e wk ⟨rfl, xk⟩
              go_wp2_with fail
              refine (spec_LeavesOk _ (putOut xs n u) _ (hlv.ext (by repeat (first | (with_reducible first | exact Ext.refl _ | assumption | apply Ext.alloc | apply Ext.drew | apply Ext.drewN | refine Ext.setCell ?_ ?_ _ | refine Ext.trans ?_ (by assumption)) | (show _ ≤ _; first | omega | (dsimp only; omega) | (simp; done) | (simp; omega))))) (putFit hf hn hu)).mono ?_
              rw [HK2.out]
              rintro e wm ⟨rfl, xm⟩
              go_wp2
              go_ret2
              obtain ⟨a3, c3, h3, h4⟩ := ret_own (b := true) rfl R.out HW.out HO.out
              exact ⟨a3, c3, h3, own_ext h4 (show Ext wr wm from (by repeat (first | (with_reducible first | exact Ext.refl _ | assumption | apply Ext.alloc | apply Ext.drew | apply Ext.drewN | refine Ext.setCell ?_ ?_ _ | refine Ext.trans ?_ (by assumption)) | (show _ ≤ _; first | omega | (dsimp only; omega) | (simp; done) | (simp; omega))))), (by repeat (first | (with_reducible first | exact Ext.refl _ | assumption | apply Ext.alloc | apply Ext.drew | apply Ext.drewN | refine Ext.setCell ?_ ?_ _ | refine Ext.trans ?_ (by assumption)) | (show _ ≤ _; first | omega | (dsimp only; omega) | (simp; done) | (simp; omega))))⟩
end Go.Proofs.YtckipgijfgeghaaDoor
