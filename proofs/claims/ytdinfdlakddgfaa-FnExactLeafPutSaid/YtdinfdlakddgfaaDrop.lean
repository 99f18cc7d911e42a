/- Leaves taken away: LeafDrop. -/
import Derived.Test.YtdinfdlakddgfaaLeaf4
import Derived.Test.YtdinfdlakddgfaaVar
import Derived.Test.YtdinfdlakddgfaaMark2
import Derived.Deep.AppendLies
import Derived.Laws.AppendOwnNone
namespace Go.Proofs.Ytdinfdlakddgfaa
open Go.RowKit

/-- a slice that is nil outright, or lies somewhere -/
def Solid (v : Value) : Prop := v = .slice none 0 0 ∨ ∃ b o n c, v = .slice (some ⟨b, o, none⟩) n c
theorem own_solid {w : World} {base : Nat} {e : TypeId} {size n : Nat} {v : Value} {xs : List Value} (h : w.ownsRow base e size v n xs) : Solid v := by
  rcases h.2 with ⟨rfl, -⟩ | ⟨g, cap, cur, rfl, -⟩
  · exact Or.inl rfl
  · exact Or.inr ⟨g, 0, n, cap, rfl⟩
theorem cells_news {w : World} {b o : Nat} {flat : List Value} (h : ∀ j u, flat[j]? = some u → w.cell? ⟨b, o + j, none⟩ = some u) : ∀ j u, flat[j]? = some u → w.cell? ((⟨b, o, none⟩ : Addr).add j) = some u := by
  intro j u hj
  have hadd : (⟨b, o, none⟩ : Addr).add j = ⟨b, o + j, none⟩ := by unfold Addr.add; split <;> simp_all
  rw [hadd]
  exact h j u hj
theorem leaf_one (xs : List Leaf) : ∀ u ∈ xs.flatMap Leaf.cells, u.oneCell' = true := by
  intro u hu
  rw [List.mem_flatMap] at hu
  obtain ⟨l, -, hl⟩ := hu
  simp [Leaf.cells] at hl
  rcases hl with rfl | rfl <;> rfl

theorem lvs_news {w : World} {b o n c : Nat} {xs : List Leaf} (h : Lvs w (.slice (some ⟨b, o, none⟩) n c) xs) : ∀ j u, (xs.flatMap Leaf.cells)[j]? = some u → w.cell? ⟨b, o + j, none⟩ = some u := by
  obtain ⟨-, a1, c1, hv, -, -, g1⟩ := h
  injection hv with e1 e2 e3
  subst e1
  rcases g1 with h0 | ⟨b1, o1, he, -, g1⟩
  · have hx0 : xs = [] := List.eq_nil_of_length_eq_zero h0
    subst hx0
    intro j u hj
    simp at hj
  · simp only [Option.some.injEq, Addr.mk.injEq, and_true] at he
    obtain ⟨rfl, rfl⟩ := he
    exact g1
theorem lvs_flat {w : World} {v : Value} {xs : List Leaf} (h : Lvs w v xs) : (xs.flatMap Leaf.cells).length = xs.length * 2 := h.1
theorem lvs_cap {w : World} {a : Option Addr} {n c : Nat} {xs : List Leaf} (h : Lvs w (.slice a n c) xs) : n = xs.length ∧ c ≤ maxLen := by
  obtain ⟨-, a1, c1, hv, -, hm, -⟩ := h
  injection hv with e1 e2 e3
  subst e3
  exact ⟨e2, hm⟩

def dropOn (xs : List Leaf) (n : ByteArray) (k : Nat) : List Leaf := (xs.take k).filter fun l => decide (l.name ≠ n)
theorem dropOn_keep {xs : List Leaf} {n : ByteArray} {k : Nat} (h : k < xs.length) (e : xs[k].name ≠ n) : dropOn xs n (k + 1) = dropOn xs n k ++ [xs[k]] := by
  unfold dropOn
  rw [List.take_succ_eq_append_getElem h, List.filter_append]
  simp [e]
theorem dropOn_skip {xs : List Leaf} {n : ByteArray} {k : Nat} (h : k < xs.length) (e : xs[k].name = n) : dropOn xs n (k + 1) = dropOn xs n k := by
  unfold dropOn
  rw [List.take_succ_eq_append_getElem h, List.filter_append]
  simp [e]
theorem dropOn_length (xs : List Leaf) (n : ByteArray) (k : Nat) : (dropOn xs n k).length ≤ k := by
  unfold dropOn
  exact Nat.le_trans (List.length_filter_le _ _) (by simp; omega)
def dropWell (xs : List Leaf) (n : ByteArray) : Bool := leafHas xs n && leavesOk xs
def dropL (xs : List Leaf) (n : ByteArray) : List Leaf := if dropWell xs n = true then dropOn xs n xs.length else xs
theorem drop_no {xs : List Leaf} {n : ByteArray} (h : dropWell xs n = false) : dropL xs n = xs := by simp [dropL, h]
theorem drop_yes {xs : List Leaf} {n : ByteArray} (h : dropWell xs n = true) : dropL xs n = dropOn xs n xs.length := by simp [dropL, h]
theorem ret_own {w' : World} {base : Nat} {a : Option Addr} {c m : Nat} {b b' : Bool} {ys zs : List Leaf} (hm : m = ys.length) (hy : zs = ys) (hb : b' = b) (h : w'.ownsRow base 68 2 (.slice a m c) ys.length (ys.flatMap Leaf.cells)) :
    ∃ a' c', Ending.returned (.tuple #[.slice a m c, .bool b]) = .returned (.tuple #[.slice a' zs.length c', .bool b']) ∧ OwnLvs w' base (.slice a' zs.length c') zs := by
  subst hm hy hb
  exact ⟨a, c, rfl, h⟩

set_option maxHeartbeats 400000 in
theorem impl_copyLeaves (v : Value) (xs : List Leaf) (w : World) (h : Lvs w v xs) (hv : Solid v) (hb : xs.length ≤ 1099511627776) :
    Calls Try.prog 55 #[v] w fun e w' => ∃ a c, e = .returned (.slice a xs.length c) ∧ OwnLvs w' w.heap.size (.slice a xs.length c) xs ∧ Ext w w' := by
  obtain ⟨i0, hi, hz0, hz1, hz2⟩ := info_parts infoLeaf
  obtain ⟨hlen, a1, c1, rfl, hc1, hm1, g1⟩ := h
  rcases hv with hv | ⟨b, o, n, c, hv⟩
  · injection hv with e1 e2 e3
    subst e1 e3
    have hx0 : xs = [] := List.eq_nil_of_length_eq_zero e2
    subst hx0
    clear hlen hc1 hm1 g1 e2
    go_enter Try.func55, Try.ntmps55
    go_wp2
    go_ret
    exact ⟨_, _, rfl, World.ownsRow_nil _ _ _ _, (by repeat (first | (with_reducible first | exact Ext.refl _ | assumption | apply Ext.alloc | apply Ext.drew | apply Ext.drewN | refine Ext.setCell ?_ ?_ _ | refine Ext.trans ?_ (by assumption)) | (show _ ≤ _; first | omega | (dsimp only; omega) | (simp; done) | (simp; omega))))⟩
  · injection hv with e1 e2 e3
    subst e1 e2 e3
    have hnews : ∀ j u, (xs.flatMap Leaf.cells)[j]? = some u → w.cell? ⟨b, o + j, none⟩ = some u := by
      rcases g1 with h0 | ⟨b1, o1, he, hb1, g1⟩
      · have hx0 : xs = [] := List.eq_nil_of_length_eq_zero h0
        subst hx0
        intro j u hj
        simp at hj
      · simp only [Option.some.injEq, Addr.mk.injEq, and_true] at he
        obtain ⟨rfl, rfl⟩ := he
        exact g1
    clear g1
    go_enter Try.func55, Try.ntmps55
    go_wp2_with (at_builtin; refine wpList_append_own _ rfl (.const (.slice none 0 0)) (.tmp 3) 25 rfl w.heap.size 68 i0 _ 2 32 Try.underlying25 hi hz0 hz1 hz2 rfl (by decide) _ 0 [] rfl (World.ownsRow_nil _ _ _ _) ⟨b, o, none⟩ xs.length c1 (xs.flatMap Leaf.cells) rfl hlen (cells_news hnews) (leaf_one xs) ?c3 ?c4 ?c5 ?_)
    case c3 => unfold maxLen; omega
    case c4 => omega
    case c5 => exact Nat.le_refl _
    intro v' w1 hown' hgrow _
    have hx1 : Ext w w1 := (Ext.refl w).grown hgrow (by simp [Value.ownBlock])
    obtain ⟨a', c', rfl⟩ := own_any hown'
    have HO := Lib.hid hown'
    clear hown' hgrow hnews
    go_wp2
    go_ret
    exact ⟨_, _, rfl, by simpa [OwnLvs] using HO.out, hx1⟩

set_option maxHeartbeats 800000 in
theorem impl_LeafDrop (v : Value) (xs : List Leaf) (n : ByteArray) (w : World) (h : Lvs w v xs) (hv : Solid v) (hf : LeafFit xs) (hb : xs.length ≤ 1099511627776) :
    Calls Try.prog 26 #[v, .string n] w fun e w' => ∃ a c, e = .returned (.tuple #[.slice a (dropL xs n).length c, .bool (dropWell xs n)]) ∧ OwnLvs w' w.heap.size (.slice a (dropL xs n).length c) (dropL xs n) ∧ Ext w w' := by
  obtain ⟨i0, hi, hz0, hz1, hz2⟩ := info_parts infoLeaf
  obtain ⟨-, a1, c1, he, hc1, hm1, g1⟩ := id h
  subst he
  unfold maxLen at hm1
  by_cases hh : leafHas xs n = true
  · by_cases hk : leavesOk xs = true
    · have hw : dropWell xs n = true := by rw [dropWell, hh, hk]; rfl
      have R := Lib.hid (drop_yes hw)
      have HW := Lib.hid hw
      have HH := Lib.hid hh
      have HK := Lib.hid hk
      clear hw hh hk hv
      go_enter Try.func26, Try.ntmps26
      go_wp2_with (first | (go_at_call 48; refine (impl_LeafGet _ xs _ _ (h.ext (by repeat (first | (with_reducible first | exact Ext.refl _ | assumption | apply Ext.alloc | apply Ext.drew | apply Ext.drewN | refine Ext.setCell ?_ ?_ _ | refine Ext.trans ?_ (by assumption)) | (show _ ≤ _; first | omega | (dsimp only; omega) | (simp; done) | (simp; omega)))))).mono ?_; rw [HH.out]; rintro e wa ⟨rfl, xa⟩) | (go_at_call 14; refine (impl_LeavesOk _ xs _ (h.ext (by repeat (first | (with_reducible first | exact Ext.refl _ | assumption | apply Ext.alloc | apply Ext.drew | apply Ext.drewN | refine Ext.setCell ?_ ?_ _ | refine Ext.trans ?_ (by assumption)) | (show _ ≤ _; first | omega | (dsimp only; omega) | (simp; done) | (simp; omega))))) hf).mono ?_; rw [HK.out]; rintro e wb ⟨rfl, xb⟩))
      have y0 : Ext w wb := (by repeat (first | (with_reducible first | exact Ext.refl _ | assumption | apply Ext.alloc | apply Ext.drew | apply Ext.drewN | refine Ext.setCell ?_ ?_ _ | refine Ext.trans ?_ (by assumption)) | (show _ ≤ _; first | omega | (dsimp only; omega) | (simp; done) | (simp; omega))))
      clear xa xb
      go_loopw [8, 28] (fun v i wr => ∃ k : Nat, k ≤ xs.length ∧ i = .int .i64 k ∧ wr.ownsRow w.heap.size 68 2 v (dropOn xs n k).length ((dropOn xs n k).flatMap Leaf.cells) ∧ Ext w wr) (fun _ i _ => xs.length - (intOf i).toNat)
      case atStart => exact ⟨0, Nat.zero_le _, rfl, World.ownsRow_nil _ _ _ _, (by repeat (first | (with_reducible first | exact Ext.refl _ | assumption | apply Ext.alloc | apply Ext.drew | apply Ext.drewN | refine Ext.setCell ?_ ?_ _ | refine Ext.trans ?_ (by assumption)) | (show _ ≤ _; first | omega | (dsimp only; omega) | (simp; done) | (simp; omega))))⟩
      case round =>
        obtain ⟨k, hk, rfl, hown, hx⟩ := hrel
        obtain ⟨a, c, rfl⟩ := own_any hown
        have hsz := hx.size
        by_cases hlt : k < xs.length
        · rcases g1 with g1 | ⟨b1, o1, rfl, hb1, g1⟩
          · omega
          have e1 : wr.cell? ⟨b1, o1 + k * 2, none⟩ = some (.string xs[k].name) := (hx.cell b1 _ hb1).trans (g1 _ _ (leaf_c0 xs k hlt))
          have e2 : wr.cell? ⟨b1, o1 + k * 2 + 1, none⟩ = some (.string xs[k].value) := (hx.cell b1 _ hb1).trans (g1 _ _ (leaf_c1 xs k hlt))
          have hdl := dropOn_length xs n k
          clear g1
          by_cases hq : xs[k].name = n
          · have hqb : (xs[k].name.toList == n.toList) = true := by rw [toList_beq]; simp [hq]
            have HU := Lib.hid (dropOn_skip hlt hq)
            have HO := Lib.hid hown
            clear hq hown
            go_wp2
            go_roundw
            case rel => exact ⟨k + 1, by omega, by go_num, by rw [HU.out]; exact own_alloc HO.out _, (by repeat (first | (with_reducible first | exact Ext.refl _ | assumption | apply Ext.alloc | apply Ext.drew | apply Ext.drewN | refine Ext.setCell ?_ ?_ _ | refine Ext.trans ?_ (by assumption)) | (show _ ≤ _; first | omega | (dsimp only; omega) | (simp; done) | (simp; omega))))⟩
            case measure => simp [intOf]; omega
          · have hqb : (xs[k].name.toList == n.toList) = false := by rw [toList_beq]; simp [hq]
            have HU := Lib.hid (dropOn_keep hlt hq)
            clear hq
            go_wp2_with (at_builtin; refine wpList_append_own _ rfl (.tmp 36) (.tmp 38) 25 rfl w.heap.size 68 i0 _ 2 32 Try.underlying25 hi hz0 hz1 hz2 rfl (by decide) _ _ _ rfl ((hown.alloc _).alloc _) ⟨wr.heap.size + 1, 0, none⟩ 1 1 [.string xs[k].name, .string xs[k].value] rfl rfl ?c1 ?c2 ?c3 ?c4 ?c5 ?_)
            case c1 =>
              have hh := heap_alloc_new (wr.alloc (Obj.cells #[Value.string xs[k].name, Value.string xs[k].value] 68)) (Obj.cells #[Value.string xs[k].name, Value.string xs[k].value] 68)
              rw [World.size_alloc] at hh
              exact World.news_of_block hh
            case c2 => intro u hu; simp at hu; rcases hu with rfl | rfl <;> rfl
            case c3 => unfold maxLen; omega
            case c4 => omega
            case c5 => simp; omega
            intro v' w1 hown' hgrow _
            have hx1 : Ext w w1 := own_ext_of ((hx.alloc _).alloc _) ((hown.alloc _).alloc _) hgrow (Nat.le_refl _)
            obtain ⟨a', c', rfl⟩ := own_any hown'
            have HO := Lib.hid hown'
            clear hown' hgrow hown
            go_wp2
            go_roundw
            case rel => exact ⟨k + 1, by omega, by go_num, by rw [HU.out, List.length_append, List.flatMap_append]; simpa [Leaf.cells] using HO.out, hx1⟩
            case measure => simp [intOf]; omega
        · have hkn : k = xs.length := by omega
          subst hkn
          have HO := Lib.hid hown
          clear g1 hown
          go_wp2
          go_ret2
          obtain ⟨a3, c3, h3, h4⟩ := ret_own (b := true) rfl R.out HW.out HO.out
          exact ⟨a3, c3, h3, h4, hx⟩
    · have hk' : leavesOk xs = false := by simpa using hk
      have hw : dropWell xs n = false := by rw [dropWell, hk']; simp
      have R := Lib.hid (drop_no hw)
      have HW := Lib.hid hw
      have HH := Lib.hid hh
      have HK := Lib.hid hk'
      clear hw hh hk hk' g1
      go_enter Try.func26, Try.ntmps26
      go_wp2_with (first | (go_at_call 48; refine (impl_LeafGet _ xs _ _ (h.ext (by repeat (first | (with_reducible first | exact Ext.refl _ | assumption | apply Ext.alloc | apply Ext.drew | apply Ext.drewN | refine Ext.setCell ?_ ?_ _ | refine Ext.trans ?_ (by assumption)) | (show _ ≤ _; first | omega | (dsimp only; omega) | (simp; done) | (simp; omega)))))).mono ?_; rw [HH.out]; rintro e wa ⟨rfl, xa⟩) | (go_at_call 14; refine (impl_LeavesOk _ xs _ (h.ext (by repeat (first | (with_reducible first | exact Ext.refl _ | assumption | apply Ext.alloc | apply Ext.drew | apply Ext.drewN | refine Ext.setCell ?_ ?_ _ | refine Ext.trans ?_ (by assumption)) | (show _ ≤ _; first | omega | (dsimp only; omega) | (simp; done) | (simp; omega))))) hf).mono ?_; rw [HK.out]; rintro e wb ⟨rfl, xb⟩))
      refine (impl_copyLeaves _ xs _ (h.ext (by repeat (first | (with_reducible first | exact Ext.refl _ | assumption | apply Ext.alloc | apply Ext.drew | apply Ext.drewN | refine Ext.setCell ?_ ?_ _ | refine Ext.trans ?_ (by assumption)) | (show _ ≤ _; first | omega | (dsimp only; omega) | (simp; done) | (simp; omega))))) hv hb).mono ?_
      rintro e w2 ⟨a2, c2, rfl, o2, x2⟩
      have HO := Lib.hid o2
      clear o2
      go_wp2
      go_ret2
      obtain ⟨a3, c3, h3, h4⟩ := ret_own (b := false) rfl R.out HW.out HO.out
      exact ⟨a3, c3, h3, own_mono h4 (Ext.size (show Ext w _ from (by repeat (first | (with_reducible first | exact Ext.refl _ | assumption | apply Ext.alloc | apply Ext.drew | apply Ext.drewN | refine Ext.setCell ?_ ?_ _ | refine Ext.trans ?_ (by assumption)) | (show _ ≤ _; first | omega | (dsimp only; omega) | (simp; done) | (simp; omega)))))), (by repeat (first | (with_reducible first | exact Ext.refl _ | assumption | apply Ext.alloc | apply Ext.drew | apply Ext.drewN | refine Ext.setCell ?_ ?_ _ | refine Ext.trans ?_ (by assumption)) | (show _ ≤ _; first | omega | (dsimp only; omega) | (simp; done) | (simp; omega))))⟩
  · have hh' : leafHas xs n = false := by simpa using hh
    have hw : dropWell xs n = false := by rw [dropWell, hh']; simp
    have R := Lib.hid (drop_no hw)
    have HW := Lib.hid hw
    have HH := Lib.hid hh'
    clear hw hh hh' g1
    go_enter Try.func26, Try.ntmps26
    go_wp2_with (go_at_call 48; refine (impl_LeafGet _ xs _ _ (h.ext (by repeat (first | (with_reducible first | exact Ext.refl _ | assumption | apply Ext.alloc | apply Ext.drew | apply Ext.drewN | refine Ext.setCell ?_ ?_ _ | refine Ext.trans ?_ (by assumption)) | (show _ ≤ _; first | omega | (dsimp only; omega) | (simp; done) | (simp; omega)))))).mono ?_; rw [HH.out]; rintro e wa ⟨rfl, xa⟩)
    refine (impl_copyLeaves _ xs _ (h.ext (by repeat (first | (with_reducible first | exact Ext.refl _ | assumption | apply Ext.alloc | apply Ext.drew | apply Ext.drewN | refine Ext.setCell ?_ ?_ _ | refine Ext.trans ?_ (by assumption)) | (show _ ≤ _; first | omega | (dsimp only; omega) | (simp; done) | (simp; omega))))) hv hb).mono ?_
    rintro e w2 ⟨a2, c2, rfl, o2, x2⟩
    have HO := Lib.hid o2
    clear o2
    go_wp2
    go_ret2
    obtain ⟨a3, c3, h3, h4⟩ := ret_own (b := false) rfl R.out HW.out HO.out
    exact ⟨a3, c3, h3, own_mono h4 (Ext.size (show Ext w _ from (by repeat (first | (with_reducible first | exact Ext.refl _ | assumption | apply Ext.alloc | apply Ext.drew | apply Ext.drewN | refine Ext.setCell ?_ ?_ _ | refine Ext.trans ?_ (by assumption)) | (show _ ≤ _; first | omega | (dsimp only; omega) | (simp; done) | (simp; omega)))))), (by repeat (first | (with_reducible first | exact Ext.refl _ | assumption | apply Ext.alloc | apply Ext.drew | apply Ext.drewN | refine Ext.setCell ?_ ?_ _ | refine Ext.trans ?_ (by assumption)) | (show _ ≤ _; first | omega | (dsimp only; omega) | (simp; done) | (simp; omega))))⟩

set_option maxHeartbeats 800000 in
theorem spec_l09Without (v : Value) (xs : List Leaf) (n : ByteArray) (w : World) (h : Lvs w v xs) (hb : xs.length ≤ 1099511627776) :
    Calls Try.prog 54 #[v, .string n] w fun e w' => ∃ a c, e = .returned (.slice a (dropOn xs n xs.length).length c) ∧ OwnLvs w' w.heap.size (.slice a (dropOn xs n xs.length).length c) (dropOn xs n xs.length) ∧ Ext w w' := by
  obtain ⟨i0, hi, hz0, hz1, hz2⟩ := info_parts infoLeaf
  obtain ⟨-, a1, c1, he, hc1, hm1, g1⟩ := id h
  subst he
  unfold maxLen at hm1
  go_enter Try.func54, Try.ntmps54
  go_wp2
  go_loopw [5, 6] (fun v i wr => ∃ k : Nat, k ≤ xs.length ∧ i = .int .i64 k ∧ wr.ownsRow w.heap.size 68 2 v (dropOn xs n k).length ((dropOn xs n k).flatMap Leaf.cells) ∧ Ext w wr) (fun _ i _ => xs.length - (intOf i).toNat)
  case atStart => exact ⟨0, Nat.zero_le _, rfl, World.ownsRow_lit w #[] 0 (Nat.le_refl _) (Nat.zero_le _) rfl, (by repeat (first | (with_reducible first | exact Ext.refl _ | assumption | apply Ext.alloc | apply Ext.drew | apply Ext.drewN | refine Ext.setCell ?_ ?_ _ | refine Ext.trans ?_ (by assumption)) | (show _ ≤ _; first | omega | (dsimp only; omega) | (simp; done) | (simp; omega))))⟩
  case round =>
    obtain ⟨k, hk, rfl, hown, hx⟩ := hrel
    obtain ⟨a, c, rfl⟩ := own_any hown
    have hsz := hx.size
    by_cases hlt : k < xs.length
    · rcases g1 with g1 | ⟨b1, o1, rfl, hb1, g1⟩
      · omega
      have e1 : wr.cell? ⟨b1, o1 + k * 2, none⟩ = some (.string xs[k].name) := (hx.cell b1 _ hb1).trans (g1 _ _ (leaf_c0 xs k hlt))
      have e2 : wr.cell? ⟨b1, o1 + k * 2 + 1, none⟩ = some (.string xs[k].value) := (hx.cell b1 _ hb1).trans (g1 _ _ (leaf_c1 xs k hlt))
      have hdl := dropOn_length xs n k
      clear g1
      by_cases hq : xs[k].name = n
      · have hqb : (xs[k].name.toList == n.toList) = true := by rw [toList_beq]; simp [hq]
        have HU := Lib.hid (dropOn_skip hlt hq)
        have HO := Lib.hid hown
        clear hq hown
        go_wp2
        go_roundw
        case rel => exact ⟨k + 1, by omega, by go_num, by rw [HU.out]; exact HO.out, (by repeat (first | (with_reducible first | exact Ext.refl _ | assumption | apply Ext.alloc | apply Ext.drew | apply Ext.drewN | refine Ext.setCell ?_ ?_ _ | refine Ext.trans ?_ (by assumption)) | (show _ ≤ _; first | omega | (dsimp only; omega) | (simp; done) | (simp; omega))))⟩
        case measure => simp [intOf]; omega
      · have hqb : (xs[k].name.toList == n.toList) = false := by rw [toList_beq]; simp [hq]
        have HU := Lib.hid (dropOn_keep hlt hq)
        clear hq
        go_wp2_with (at_builtin; refine wpList_append_own _ rfl (.tmp 21) (.tmp 26) 25 rfl w.heap.size 68 i0 _ 2 32 Try.underlying25 hi hz0 hz1 hz2 rfl (by decide) _ _ _ rfl (hown.alloc _) ⟨wr.heap.size, 0, none⟩ 1 1 [.string xs[k].name, .string xs[k].value] rfl rfl ?c1 ?c2 ?c3 ?c4 ?c5 ?_)
        case c1 => exact World.news_of_block (heap_alloc_new wr (Obj.cells #[Value.string xs[k].name, Value.string xs[k].value] 68))
        case c2 => intro u hu; simp at hu; rcases hu with rfl | rfl <;> rfl
        case c3 => unfold maxLen; omega
        case c4 => omega
        case c5 => simp; omega
        intro v' w1 hown' hgrow _
        have hx1 : Ext w w1 := own_ext_of (hx.alloc _) (hown.alloc _) hgrow (Nat.le_refl _)
        obtain ⟨a', c', rfl⟩ := own_any hown'
        have HO := Lib.hid hown'
        clear hown' hgrow hown
        go_wp2
        go_roundw
        case rel => exact ⟨k + 1, by omega, by go_num, by rw [HU.out, List.length_append, List.flatMap_append]; simpa [Leaf.cells] using HO.out, hx1⟩
        case measure => simp [intOf]; omega
    · have hkn : k = xs.length := by omega
      subst hkn
      have HO := Lib.hid hown
      clear g1 hown
      go_wp2
      go_ret
      exact ⟨_, _, rfl, HO.out, hx⟩

set_option maxHeartbeats 1600000 in
theorem spec_LeafDrop (v : Value) (xs : List Leaf) (n : ByteArray) (w : World) (h : Lvs w v xs) (hv : Solid v) (hf : LeafFit xs) (hb : xs.length ≤ 1099511627776) :
    Calls Try.prog 25 #[v, .string n] w fun e w' => ∃ a c, e = .returned (.tuple #[.slice a (dropL xs n).length c, .bool (dropWell xs n)]) ∧ OwnLvs w' w.heap.size (.slice a (dropL xs n).length c) (dropL xs n) ∧ Ext w w' := by
  obtain ⟨i0, hi, hz0, hz1, hz2⟩ := info_parts infoLeaf
  have hlen := lvs_flat h
  by_cases hk : leavesOk xs = true
  · by_cases hh : leafHas xs n = true
    · have hw : dropWell xs n = true := by rw [dropWell, hh, hk]; rfl
      have R := Lib.hid (drop_yes hw)
      have HW := Lib.hid hw
      have HH := Lib.hid hh
      have HK := Lib.hid hk
      clear hw hh hk hv hlen
      obtain ⟨a, c, rfl⟩ := h.form
      go_enter Try.func25, Try.ntmps25
      go_wp2_with (first | (go_at_call 46; refine (spec_LeafGet _ xs _ _ (h.ext (by repeat (first | (with_reducible first | exact Ext.refl _ | assumption | apply Ext.alloc | apply Ext.drew | apply Ext.drewN | refine Ext.setCell ?_ ?_ _ | refine Ext.trans ?_ (by assumption)) | (show _ ≤ _; first | omega | (dsimp only; omega) | (simp; done) | (simp; omega)))))).mono ?_; rw [HH.out]; rintro e wa ⟨rfl, xa⟩) | (go_at_call 12; refine (spec_LeavesOk _ xs _ (h.ext (by repeat (first | (with_reducible first | exact Ext.refl _ | assumption | apply Ext.alloc | apply Ext.drew | apply Ext.drewN | refine Ext.setCell ?_ ?_ _ | refine Ext.trans ?_ (by assumption)) | (show _ ≤ _; first | omega | (dsimp only; omega) | (simp; done) | (simp; omega))))) hf).mono ?_; rw [HK.out]; rintro e wb ⟨rfl, xb⟩))
      refine (spec_l09Without _ xs n _ (h.ext (by repeat (first | (with_reducible first | exact Ext.refl _ | assumption | apply Ext.alloc | apply Ext.drew | apply Ext.drewN | refine Ext.setCell ?_ ?_ _ | refine Ext.trans ?_ (by assumption)) | (show _ ≤ _; first | omega | (dsimp only; omega) | (simp; done) | (simp; omega))))) hb).mono ?_
      rintro e w2 ⟨a2, c2, rfl, o2, x2⟩
      have HO := Lib.hid o2
      clear o2
      go_wp2
      go_ret2
      obtain ⟨a3, c3, h3, h4⟩ := ret_own (b := true) rfl R.out HW.out HO.out
      exact ⟨a3, c3, h3, own_mono h4 (Ext.size (show Ext w _ from (by repeat (first | (with_reducible first | exact Ext.refl _ | assumption | apply Ext.alloc | apply Ext.drew | apply Ext.drewN | refine Ext.setCell ?_ ?_ _ | refine Ext.trans ?_ (by assumption)) | (show _ ≤ _; first | omega | (dsimp only; omega) | (simp; done) | (simp; omega)))))), (by repeat (first | (with_reducible first | exact Ext.refl _ | assumption | apply Ext.alloc | apply Ext.drew | apply Ext.drewN | refine Ext.setCell ?_ ?_ _ | refine Ext.trans ?_ (by assumption)) | (show _ ≤ _; first | omega | (dsimp only; omega) | (simp; done) | (simp; omega))))⟩
    · have hh' : leafHas xs n = false := by simpa using hh
      have hw : dropWell xs n = false := by rw [dropWell, hh']; simp
      have R := Lib.hid (drop_no hw)
      have HW := Lib.hid hw
      have HH := Lib.hid hh'
      have HK := Lib.hid hk
      clear hw hh hh' hk
      rcases hv with hv | ⟨b, o, n', c, hv⟩
      · subst hv
        have hx0 : xs = [] := List.eq_nil_of_length_eq_zero (lvs_cap h).1.symm
        have HX := Lib.hid hx0
        clear hlen hx0
        go_enter Try.func25, Try.ntmps25
        go_wp2_with (first | (go_at_call 46; refine (spec_LeafGet _ xs _ _ (h.ext (by repeat (first | (with_reducible first | exact Ext.refl _ | assumption | apply Ext.alloc | apply Ext.drew | apply Ext.drewN | refine Ext.setCell ?_ ?_ _ | refine Ext.trans ?_ (by assumption)) | (show _ ≤ _; first | omega | (dsimp only; omega) | (simp; done) | (simp; omega)))))).mono ?_; rw [HH.out]; rintro e wa ⟨rfl, xa⟩) | (go_at_call 12; refine (spec_LeavesOk _ xs _ (h.ext (by repeat (first | (with_reducible first | exact Ext.refl _ | assumption | apply Ext.alloc | apply Ext.drew | apply Ext.drewN | refine Ext.setCell ?_ ?_ _ | refine Ext.trans ?_ (by assumption)) | (show _ ≤ _; first | omega | (dsimp only; omega) | (simp; done) | (simp; omega))))) hf).mono ?_; rw [HK.out]; rintro e wb ⟨rfl, xb⟩) | (at_builtin; (refine wpList_append_own_none rfl (.tmp 21) (.tmp 22) 25 rfl wb.heap.size 68 i0 2 Try.underlying25 hi _ _ [] rfl (World.ownsRow_lit wb #[] 0 (Nat.le_refl _) (Nat.zero_le _) rfl) rfl ?_)))
        go_ret2
        have hlit : (wb.alloc (Obj.cells #[] 68)).ownsRow wb.heap.size 68 2 (.slice (some ⟨wb.heap.size, 0, none⟩) 0 0) 0 [] := World.ownsRow_lit wb #[] 0 (Nat.le_refl _) (Nat.zero_le _) rfl
        obtain ⟨a3, c3, h3, h4⟩ := ret_own (ys := []) (b := false) rfl (R.out.trans HX.out) HW.out hlit
        exact ⟨a3, c3, h3, own_mono h4 (Ext.size (show Ext w wb from (by repeat (first | (with_reducible first | exact Ext.refl _ | assumption | apply Ext.alloc | apply Ext.drew | apply Ext.drewN | refine Ext.setCell ?_ ?_ _ | refine Ext.trans ?_ (by assumption)) | (show _ ≤ _; first | omega | (dsimp only; omega) | (simp; done) | (simp; omega)))))), (by repeat (first | (with_reducible first | exact Ext.refl _ | assumption | apply Ext.alloc | apply Ext.drew | apply Ext.drewN | refine Ext.setCell ?_ ?_ _ | refine Ext.trans ?_ (by assumption)) | (show _ ≤ _; first | omega | (dsimp only; omega) | (simp; done) | (simp; omega))))⟩
      · subst hv
        obtain ⟨hn', hc'⟩ := lvs_cap h
        subst hn'
        go_enter Try.func25, Try.ntmps25
        go_wp2_with (first | (go_at_call 46; refine (spec_LeafGet _ xs _ _ (h.ext (by repeat (first | (with_reducible first | exact Ext.refl _ | assumption | apply Ext.alloc | apply Ext.drew | apply Ext.drewN | refine Ext.setCell ?_ ?_ _ | refine Ext.trans ?_ (by assumption)) | (show _ ≤ _; first | omega | (dsimp only; omega) | (simp; done) | (simp; omega)))))).mono ?_; rw [HH.out]; rintro e wa ⟨rfl, xa⟩) | (go_at_call 12; refine (spec_LeavesOk _ xs _ (h.ext (by repeat (first | (with_reducible first | exact Ext.refl _ | assumption | apply Ext.alloc | apply Ext.drew | apply Ext.drewN | refine Ext.setCell ?_ ?_ _ | refine Ext.trans ?_ (by assumption)) | (show _ ≤ _; first | omega | (dsimp only; omega) | (simp; done) | (simp; omega))))) hf).mono ?_; rw [HK.out]; rintro e wb ⟨rfl, xb⟩) | (at_builtin; refine wpList_append_own _ rfl (.tmp 21) (.tmp 22) 25 rfl wb.heap.size 68 i0 _ 2 32 Try.underlying25 hi hz0 hz1 hz2 rfl (by decide) _ 0 [] rfl (World.ownsRow_lit wb #[] 0 (Nat.le_refl _) (Nat.zero_le _) rfl) ⟨b, o, none⟩ xs.length c (xs.flatMap Leaf.cells) rfl hlen (cells_news (lvs_news (h.ext (by repeat (first | (with_reducible first | exact Ext.refl _ | assumption | apply Ext.alloc | apply Ext.drew | apply Ext.drewN | refine Ext.setCell ?_ ?_ _ | refine Ext.trans ?_ (by assumption)) | (show _ ≤ _; first | omega | (dsimp only; omega) | (simp; done) | (simp; omega))))))) (leaf_one xs) ?c3 ?c4 ?c5 ?_))
        case c3 => unfold maxLen; omega
        case c4 => omega
        case c5 => simp
        intro v' w1 hown' hgrow _
        have hx1 : Ext wb w1 := own_ext_of ((Ext.refl wb).alloc _) (World.ownsRow_lit (base := wb.heap.size) (e := 68) (size := 2) wb #[] 0 (Nat.le_refl _) (Nat.zero_le _) rfl) hgrow (Nat.le_refl _)
        obtain ⟨a', c', rfl⟩ := own_any hown'
        have HO := Lib.hid hown'
        clear hown' hgrow
        go_wp2
        go_ret2
        obtain ⟨a3, c3, h3, h4⟩ := ret_own (b := false) rfl R.out HW.out HO.out
        exact ⟨a3, c3, h3, own_mono h4 (Ext.size (show Ext w wb from (by repeat (first | (with_reducible first | exact Ext.refl _ | assumption | apply Ext.alloc | apply Ext.drew | apply Ext.drewN | refine Ext.setCell ?_ ?_ _ | refine Ext.trans ?_ (by assumption)) | (show _ ≤ _; first | omega | (dsimp only; omega) | (simp; done) | (simp; omega)))))), (by repeat (first | (with_reducible first | exact Ext.refl _ | assumption | apply Ext.alloc | apply Ext.drew | apply Ext.drewN | refine Ext.setCell ?_ ?_ _ | refine Ext.trans ?_ (by assumption)) | (show _ ≤ _; first | omega | (dsimp only; omega) | (simp; done) | (simp; omega))))⟩
  · have hk' : leavesOk xs = false := by simpa using hk
    have hw : dropWell xs n = false := by rw [dropWell, hk']; simp
    have R := Lib.hid (drop_no hw)
    have HW := Lib.hid hw
    have HK := Lib.hid hk'
    clear hw hk hk'
    cases hh : leafHas xs n
    all_goals
      have HH := Lib.hid hh
      clear hh
      rcases hv with hv | ⟨b, o, n', c, hv⟩
      · subst hv
        have hx0 : xs = [] := List.eq_nil_of_length_eq_zero (lvs_cap h).1.symm
        have HX := Lib.hid hx0
        clear hlen hx0
        go_enter Try.func25, Try.ntmps25
        go_wp2_with (first | (go_at_call 46; refine (spec_LeafGet _ xs _ _ (h.ext (by repeat (first | (with_reducible first | exact Ext.refl _ | assumption | apply Ext.alloc | apply Ext.drew | apply Ext.drewN | refine Ext.setCell ?_ ?_ _ | refine Ext.trans ?_ (by assumption)) | (show _ ≤ _; first | omega | (dsimp only; omega) | (simp; done) | (simp; omega)))))).mono ?_; rw [HH.out]; rintro e wa ⟨rfl, xa⟩) | (go_at_call 12; refine (spec_LeavesOk _ xs _ (h.ext (by repeat (first | (with_reducible first | exact Ext.refl _ | assumption | apply Ext.alloc | apply Ext.drew | apply Ext.drewN | refine Ext.setCell ?_ ?_ _ | refine Ext.trans ?_ (by assumption)) | (show _ ≤ _; first | omega | (dsimp only; omega) | (simp; done) | (simp; omega))))) hf).mono ?_; rw [HK.out]; rintro e wb ⟨rfl, xb⟩) | (at_builtin; (refine wpList_append_own_none rfl (.tmp 21) (.tmp 22) 25 rfl wb.heap.size 68 i0 2 Try.underlying25 hi _ _ [] rfl (World.ownsRow_lit wb #[] 0 (Nat.le_refl _) (Nat.zero_le _) rfl) rfl ?_)))
        go_ret2
        have hlit : (wb.alloc (Obj.cells #[] 68)).ownsRow wb.heap.size 68 2 (.slice (some ⟨wb.heap.size, 0, none⟩) 0 0) 0 [] := World.ownsRow_lit wb #[] 0 (Nat.le_refl _) (Nat.zero_le _) rfl
        obtain ⟨a3, c3, h3, h4⟩ := ret_own (ys := []) (b := false) rfl (R.out.trans HX.out) HW.out hlit
        exact ⟨a3, c3, h3, own_mono h4 (Ext.size (show Ext w wb from (by repeat (first | (with_reducible first | exact Ext.refl _ | assumption | apply Ext.alloc | apply Ext.drew | apply Ext.drewN | refine Ext.setCell ?_ ?_ _ | refine Ext.trans ?_ (by assumption)) | (show _ ≤ _; first | omega | (dsimp only; omega) | (simp; done) | (simp; omega)))))), (by repeat (first | (with_reducible first | exact Ext.refl _ | assumption | apply Ext.alloc | apply Ext.drew | apply Ext.drewN | refine Ext.setCell ?_ ?_ _ | refine Ext.trans ?_ (by assumption)) | (show _ ≤ _; first | omega | (dsimp only; omega) | (simp; done) | (simp; omega))))⟩
      · subst hv
        obtain ⟨hn', hc'⟩ := lvs_cap h
        subst hn'
        go_enter Try.func25, Try.ntmps25
        go_wp2_with (first | (go_at_call 46; refine (spec_LeafGet _ xs _ _ (h.ext (by repeat (first | (with_reducible first | exact Ext.refl _ | assumption | apply Ext.alloc | apply Ext.drew | apply Ext.drewN | refine Ext.setCell ?_ ?_ _ | refine Ext.trans ?_ (by assumption)) | (show _ ≤ _; first | omega | (dsimp only; omega) | (simp; done) | (simp; omega)))))).mono ?_; rw [HH.out]; rintro e wa ⟨rfl, xa⟩) | (go_at_call 12; refine (spec_LeavesOk _ xs _ (h.ext (by repeat (first | (with_reducible first | exact Ext.refl _ | assumption | apply Ext.alloc | apply Ext.drew | apply Ext.drewN | refine Ext.setCell ?_ ?_ _ | refine Ext.trans ?_ (by assumption)) | (show _ ≤ _; first | omega | (dsimp only; omega) | (simp; done) | (simp; omega))))) hf).mono ?_; rw [HK.out]; rintro e wb ⟨rfl, xb⟩) | (at_builtin; refine wpList_append_own _ rfl (.tmp 21) (.tmp 22) 25 rfl wb.heap.size 68 i0 _ 2 32 Try.underlying25 hi hz0 hz1 hz2 rfl (by decide) _ 0 [] rfl (World.ownsRow_lit wb #[] 0 (Nat.le_refl _) (Nat.zero_le _) rfl) ⟨b, o, none⟩ xs.length c (xs.flatMap Leaf.cells) rfl hlen (cells_news (lvs_news (h.ext (by repeat (first | (with_reducible first | exact Ext.refl _ | assumption | apply Ext.alloc | apply Ext.drew | apply Ext.drewN | refine Ext.setCell ?_ ?_ _ | refine Ext.trans ?_ (by assumption)) | (show _ ≤ _; first | omega | (dsimp only; omega) | (simp; done) | (simp; omega))))))) (leaf_one xs) ?c3 ?c4 ?c5 ?_))
        case c3 => unfold maxLen; omega
        case c4 => omega
        case c5 => simp
        intro v' w1 hown' hgrow _
        have hx1 : Ext wb w1 := own_ext_of ((Ext.refl wb).alloc _) (World.ownsRow_lit (base := wb.heap.size) (e := 68) (size := 2) wb #[] 0 (Nat.le_refl _) (Nat.zero_le _) rfl) hgrow (Nat.le_refl _)
        obtain ⟨a', c', rfl⟩ := own_any hown'
        have HO := Lib.hid hown'
        clear hown' hgrow
        go_wp2
        go_ret2
        obtain ⟨a3, c3, h3, h4⟩ := ret_own (b := false) rfl R.out HW.out HO.out
        exact ⟨a3, c3, h3, own_mono h4 (Ext.size (show Ext w wb from (by repeat (first | (with_reducible first | exact Ext.refl _ | assumption | apply Ext.alloc | apply Ext.drew | apply Ext.drewN | refine Ext.setCell ?_ ?_ _ | refine Ext.trans ?_ (by assumption)) | (show _ ≤ _; first | omega | (dsimp only; omega) | (simp; done) | (simp; omega)))))), (by repeat (first | (with_reducible first | exact Ext.refl _ | assumption | apply Ext.alloc | apply Ext.drew | apply Ext.drewN | refine Ext.setCell ?_ ?_ _ | refine Ext.trans ?_ (by assumption)) | (show _ ≤ _; first | omega | (dsimp only; omega) | (simp; done) | (simp; omega))))⟩
end Go.Proofs.Ytdinfdlakddgfaa
