/- Leaves put: the program's walk. -/
import Derived.Test.YtdinfdlakddgfaaPut
import Derived.Test.YtdinfdlakddgfaaLText
namespace Go.Proofs.Ytdinfdlakddgfaa
open Go.RowKit

def putWell (xs : List Leaf) (n u : ByteArray) : Bool := leavesOk xs && leavesOk (putOut xs n u)
def putL (xs : List Leaf) (n u : ByteArray) : List Leaf := if putWell xs n u = true then putOut xs n u else xs
theorem put_no {xs : List Leaf} {n u : ByteArray} (h : putWell xs n u = false) : putL xs n u = xs := by simp [putL, h]
theorem put_yes {xs : List Leaf} {n u : ByteArray} (h : putWell xs n u = true) : putL xs n u = putOut xs n u := by simp [putL, h]
theorem putFit {xs : List Leaf} {n u : ByteArray} (hf : LeafFit xs) (hn : n.size ≤ maxLen) (hu : u.size ≤ maxLen) : LeafFit (putOut xs n u) := by
  intro l hl
  simp only [putOut, dropOn, List.mem_append, List.mem_filter, List.mem_singleton] at hl
  rcases hl with (⟨⟨h1, -⟩, -⟩ | rfl) | ⟨⟨h1, -⟩, -⟩
  · exact hf l (List.mem_of_mem_take h1)
  · exact ⟨hn, hu⟩
  · exact hf l (List.mem_of_mem_take h1)

set_option maxHeartbeats 3200000 in
theorem impl_LeafPut (v : Value) (xs : List Leaf) (n u : ByteArray) (w : World) (h : Lvs w v xs) (hv : Solid v) (hf : LeafFit xs) (hn : n.size ≤ maxLen) (hu : u.size ≤ maxLen) (hb : xs.length ≤ 1099511627776) :
    Calls Try.prog 30 #[v, .string n, .string u] w fun e w' => ∃ a c, e = .returned (.tuple #[.slice a (putL xs n u).length c, .bool (putWell xs n u)]) ∧ OwnLvs w' w.heap.size (.slice a (putL xs n u).length c) (putL xs n u) ∧ Ext w w' := by
  obtain ⟨i0, hi, hz0, hz1, hz2⟩ := info_parts infoLeaf
  obtain ⟨-, a1, c1, he, hc1, hm1, g1⟩ := id h
  subst he
  unfold maxLen at hm1
  by_cases hk : leavesOk xs = true
  · have hl24 := (leavesOk_small hk).1
    have HK := Lib.hid hk
    clear hk
    go_enter Try.func30, Try.ntmps30
    go_wp2_with (go_at_call 14; refine (impl_LeavesOk _ xs _ (h.ext (by repeat (first | (with_reducible first | exact Ext.refl _ | assumption | apply Ext.alloc | apply Ext.drew | apply Ext.drewN | refine Ext.setCell ?_ ?_ _ | refine Ext.trans ?_ (by assumption)) | (show _ ≤ _; first | omega | (dsimp only; omega) | (simp; done) | (simp; omega))))) hf).mono ?_; rw [HK.out]; rintro e w0 ⟨rfl, x0⟩)
    go_loopw [8, 9, 19] (fun v pb i wr => ∃ k : Nat, k ≤ xs.length ∧ i = .int .i64 k ∧ pb = .bool (putRun xs n u k).2 ∧ wr.ownsRow w.heap.size 68 2 v (putRun xs n u k).1.length ((putRun xs n u k).1.flatMap Leaf.cells) ∧ Ext w wr) (fun _ _ i _ => xs.length - (intOf i).toNat)
    case atStart => exact ⟨0, Nat.zero_le _, rfl, rfl, World.ownsRow_nil _ _ _ _, (by repeat (first | (with_reducible first | exact Ext.refl _ | assumption | apply Ext.alloc | apply Ext.drew | apply Ext.drewN | refine Ext.setCell ?_ ?_ _ | refine Ext.trans ?_ (by assumption)) | (show _ ≤ _; first | omega | (dsimp only; omega) | (simp; done) | (simp; omega))))⟩
    case round =>
      obtain ⟨k, hk, rfl, rfl, hown, hx⟩ := hrel
      obtain ⟨a, c, rfl⟩ := own_any hown
      have hsz := hx.size
      have hol := putRun_length xs n u k hk
      generalize ho : (putRun xs n u k).1 = o at *
      generalize hp : (putRun xs n u k).2 = pb at *
      by_cases hlt : k < xs.length
      · rcases g1 with g1 | ⟨b1, o1, rfl, hb1, g1⟩
        · omega
        have e1 : wr.cell? ⟨b1, o1 + k * 2, none⟩ = some (.string xs[k].name) := (hx.cell b1 _ hb1).trans (g1 _ _ (leaf_c0 xs k hlt))
        have e2 : wr.cell? ⟨b1, o1 + k * 2 + 1, none⟩ = some (.string xs[k].value) := (hx.cell b1 _ hb1).trans (g1 _ _ (leaf_c1 xs k hlt))
        clear g1
        cases pb
        · cases hls : lss xs[k].name n
          · have hlb : Op.bytesLess xs[k].name.toList n.toList = false := hls
            by_cases hq : xs[k].name = n
            · have hqb : (xs[k].name.toList == n.toList) = true := by rw [toList_beq]; simp [hq]
              have HU := Lib.hid (show putRun xs n u (k + 1) = (o ++ [⟨n, u⟩], true) by rw [putRun_succ xs n u k hlt, putStep, ho, hp, hls]; simp [hq])
              clear hq hls hp
              go_wp2_with (at_builtin; refine wpList_append_own _ rfl (.tmp 31) (.tmp 35) 25 rfl w.heap.size 68 i0 _ 2 32 Try.underlying25 hi hz0 hz1 hz2 rfl (by decide) _ _ _ rfl ((hown.alloc _).alloc _) ⟨wr.heap.size + 1, 0, none⟩ 1 1 [.string n, .string u] rfl rfl ?c1 ?c2 ?c3 ?c4 ?c5 ?_)
              case c1 =>
                have hh := heap_alloc_new (wr.alloc (Obj.cells #[Value.string xs[k].name, Value.string xs[k].value] 68)) (Obj.cells #[Value.string n, Value.string u] 68); rw [World.size_alloc] at hh
                exact World.news_of_block hh
              case c2 => intro u hu; simp at hu; rcases hu with rfl | rfl <;> rfl
              case c3 => unfold maxLen; omega
              case c4 => omega
              case c5 => simp; omega
              intro v' w1 hown' hgrow _
              have y_w1 : Ext w w1 := own_ext_of ((hx.alloc _).alloc _) ((hown.alloc _).alloc _) hgrow (Nat.le_refl _)
              have hblk := fun g hg => own_lt hown g hg
              have p0 : w1.cell? ⟨wr.heap.size, 0, none⟩ = some (.string xs[k].name) := by
                rw [hgrow.cell_far _ (by simp; omega) (fun e => by have := (hblk _ e.symm).2; dsimp only at this; omega)]
                simp [go_sem]
              have p1 : w1.cell? ⟨wr.heap.size, 1, none⟩ = some (.string xs[k].value) := by
                rw [hgrow.cell_far _ (by simp; omega) (fun e => by have := (hblk _ e.symm).2; dsimp only at this; omega)]
                simp [go_sem]
              clear hblk
              obtain ⟨a', c', rfl⟩ := own_any hown'
              have HO := Lib.hid hown'
              clear hown' hgrow hown
              go_wp2
              go_roundw
              case rel => exact ⟨k + 1, by omega, by go_num, by rw [HU.out], by rw [HU.out]; rw [List.length_append, List.flatMap_append]; simpa [Leaf.cells] using HO.out, y_w1⟩
              case measure => simp [intOf]; omega
            · have hqb : (xs[k].name.toList == n.toList) = false := by rw [toList_beq]; simp [hq]
              have HU := Lib.hid (show putRun xs n u (k + 1) = (o ++ [⟨n, u⟩] ++ [xs[k]], true) by rw [putRun_succ xs n u k hlt, putStep, ho, hp, hls]; simp [hq])
              clear hq hls hp
              go_wp2_with (at_builtin; refine wpList_append_own _ rfl (.tmp 31) (.tmp 35) 25 rfl w.heap.size 68 i0 _ 2 32 Try.underlying25 hi hz0 hz1 hz2 rfl (by decide) _ _ _ rfl ((hown.alloc _).alloc _) ⟨wr.heap.size + 1, 0, none⟩ 1 1 [.string n, .string u] rfl rfl ?c1 ?c2 ?c3 ?c4 ?c5 ?_)
              case c1 =>
                have hh := heap_alloc_new (wr.alloc (Obj.cells #[Value.string xs[k].name, Value.string xs[k].value] 68)) (Obj.cells #[Value.string n, Value.string u] 68); rw [World.size_alloc] at hh
                exact World.news_of_block hh
              case c2 => intro u hu; simp at hu; rcases hu with rfl | rfl <;> rfl
              case c3 => unfold maxLen; omega
              case c4 => omega
              case c5 => simp; omega
              intro v' w1 hown' hgrow _
              have y_w1 : Ext w w1 := own_ext_of ((hx.alloc _).alloc _) ((hown.alloc _).alloc _) hgrow (Nat.le_refl _)
              have hblk := fun g hg => own_lt hown g hg
              have p0 : w1.cell? ⟨wr.heap.size, 0, none⟩ = some (.string xs[k].name) := by
                rw [hgrow.cell_far _ (by simp; omega) (fun e => by have := (hblk _ e.symm).2; dsimp only at this; omega)]
                simp [go_sem]
              have p1 : w1.cell? ⟨wr.heap.size, 1, none⟩ = some (.string xs[k].value) := by
                rw [hgrow.cell_far _ (by simp; omega) (fun e => by have := (hblk _ e.symm).2; dsimp only at this; omega)]
                simp [go_sem]
              clear hblk
              obtain ⟨a', c', rfl⟩ := own_any hown'
              have hsz1 := y_w1.size
              clear hgrow hown
              go_wp2_with (at_builtin; refine wpList_append_own _ rfl (.tmp 41) (.tmp 43) 25 rfl w.heap.size 68 i0 _ 2 32 Try.underlying25 hi hz0 hz1 hz2 rfl (by decide) _ _ _ rfl (hown'.alloc _) ⟨w1.heap.size, 0, none⟩ 1 1 [.string xs[k].name, .string xs[k].value] rfl rfl ?c1 ?c2 ?c3 ?c4 ?c5 ?_)
              case c1 =>
                have hh := heap_alloc_new w1 (Obj.cells #[Value.string xs[k].name, Value.string xs[k].value] 68)
                exact World.news_of_block hh
              case c2 => intro u hu; simp at hu; rcases hu with rfl | rfl <;> rfl
              case c3 => unfold maxLen; omega
              case c4 => omega
              case c5 => simp; omega
              intro v2 w2 hown2 hgrow2 _
              have y_w2 : Ext w w2 := own_ext_of (y_w1.alloc _) (hown'.alloc _) hgrow2 (Nat.le_refl _)
              obtain ⟨a2, c2, rfl⟩ := own_any hown2
              have HO := Lib.hid hown2
              clear hown2 hgrow2 hown'
              go_wp2
              go_roundw
              case rel => exact ⟨k + 1, by omega, by go_num, by rw [HU.out], by rw [HU.out]; rw [List.length_append, List.length_append, List.flatMap_append, List.flatMap_append]; simpa [Leaf.cells] using HO.out, y_w2⟩
              case measure => simp [intOf]; omega
          · have hlb : Op.bytesLess xs[k].name.toList n.toList = true := hls
            by_cases hq : xs[k].name = n
            · have hqb : (xs[k].name.toList == n.toList) = true := by rw [toList_beq]; simp [hq]
              have HU := Lib.hid (show putRun xs n u (k + 1) = (o, false) by rw [putRun_succ xs n u k hlt, putStep, ho, hp, hls]; simp [hq])
              clear hq hls hp
              have HO := Lib.hid hown
              clear hown
              go_wp2
              go_roundw
              case rel => exact ⟨k + 1, by omega, by go_num, by rw [HU.out], by rw [HU.out]; exact own_alloc HO.out _, (by repeat (first | (with_reducible first | exact Ext.refl _ | assumption | apply Ext.alloc | apply Ext.drew | apply Ext.drewN | refine Ext.setCell ?_ ?_ _ | refine Ext.trans ?_ (by assumption)) | (show _ ≤ _; first | omega | (dsimp only; omega) | (simp; done) | (simp; omega))))⟩
              case measure => simp [intOf]; omega
            · have hqb : (xs[k].name.toList == n.toList) = false := by rw [toList_beq]; simp [hq]
              have HU := Lib.hid (show putRun xs n u (k + 1) = (o ++ [xs[k]], false) by rw [putRun_succ xs n u k hlt, putStep, ho, hp, hls]; simp [hq])
              clear hq hls hp
              go_wp2_with (at_builtin; refine wpList_append_own _ rfl (.tmp 41) (.tmp 43) 25 rfl w.heap.size 68 i0 _ 2 32 Try.underlying25 hi hz0 hz1 hz2 rfl (by decide) _ _ _ rfl ((hown.alloc _).alloc _) ⟨wr.heap.size + 1, 0, none⟩ 1 1 [.string xs[k].name, .string xs[k].value] rfl rfl ?c1 ?c2 ?c3 ?c4 ?c5 ?_)
              case c1 =>
                have hh := heap_alloc_new (wr.alloc (Obj.cells #[Value.string xs[k].name, Value.string xs[k].value] 68)) (Obj.cells #[Value.string xs[k].name, Value.string xs[k].value] 68); rw [World.size_alloc] at hh
                exact World.news_of_block hh
              case c2 => intro u hu; simp at hu; rcases hu with rfl | rfl <;> rfl
              case c3 => unfold maxLen; omega
              case c4 => omega
              case c5 => simp; omega
              intro v' w1 hown' hgrow _
              have y_w1 : Ext w w1 := own_ext_of ((hx.alloc _).alloc _) ((hown.alloc _).alloc _) hgrow (Nat.le_refl _)
              obtain ⟨a', c', rfl⟩ := own_any hown'
              have HO := Lib.hid hown'
              clear hown' hgrow hown
              go_wp2
              go_roundw
              case rel => exact ⟨k + 1, by omega, by go_num, by rw [HU.out], by rw [HU.out]; rw [List.length_append, List.flatMap_append]; simpa [Leaf.cells] using HO.out, y_w1⟩
              case measure => simp [intOf]; omega
        · have hls : True := trivial
          by_cases hq : xs[k].name = n
          · have hqb : (xs[k].name.toList == n.toList) = true := by rw [toList_beq]; simp [hq]
            have HU := Lib.hid (show putRun xs n u (k + 1) = (o, true) by rw [putRun_succ xs n u k hlt, putStep, ho, hp]; simp [hq])
            clear hq hls hp
            have HO := Lib.hid hown
            clear hown
            go_wp2
            go_roundw
            case rel => exact ⟨k + 1, by omega, by go_num, by rw [HU.out], by rw [HU.out]; exact own_alloc HO.out _, (by repeat (first | (with_reducible first | exact Ext.refl _ | assumption | apply Ext.alloc | apply Ext.drew | apply Ext.drewN | refine Ext.setCell ?_ ?_ _ | refine Ext.trans ?_ (by assumption)) | (show _ ≤ _; first | omega | (dsimp only; omega) | (simp; done) | (simp; omega))))⟩
            case measure => simp [intOf]; omega
          · have hqb : (xs[k].name.toList == n.toList) = false := by rw [toList_beq]; simp [hq]
            have HU := Lib.hid (show putRun xs n u (k + 1) = (o ++ [xs[k]], true) by rw [putRun_succ xs n u k hlt, putStep, ho, hp]; simp [hq])
            clear hq hls hp
            go_wp2_with (at_builtin; refine wpList_append_own _ rfl (.tmp 41) (.tmp 43) 25 rfl w.heap.size 68 i0 _ 2 32 Try.underlying25 hi hz0 hz1 hz2 rfl (by decide) _ _ _ rfl ((hown.alloc _).alloc _) ⟨wr.heap.size + 1, 0, none⟩ 1 1 [.string xs[k].name, .string xs[k].value] rfl rfl ?c1 ?c2 ?c3 ?c4 ?c5 ?_)
            case c1 =>
              have hh := heap_alloc_new (wr.alloc (Obj.cells #[Value.string xs[k].name, Value.string xs[k].value] 68)) (Obj.cells #[Value.string xs[k].name, Value.string xs[k].value] 68); rw [World.size_alloc] at hh
              exact World.news_of_block hh
            case c2 => intro u hu; simp at hu; rcases hu with rfl | rfl <;> rfl
            case c3 => unfold maxLen; omega
            case c4 => omega
            case c5 => simp; omega
            intro v' w1 hown' hgrow _
            have y_w1 : Ext w w1 := own_ext_of ((hx.alloc _).alloc _) ((hown.alloc _).alloc _) hgrow (Nat.le_refl _)
            obtain ⟨a', c', rfl⟩ := own_any hown'
            have HO := Lib.hid hown'
            clear hown' hgrow hown
            go_wp2
            go_roundw
            case rel => exact ⟨k + 1, by omega, by go_num, by rw [HU.out], by rw [HU.out]; rw [List.length_append, List.flatMap_append]; simpa [Leaf.cells] using HO.out, y_w1⟩
            case measure => simp [intOf]; omega
      · have hkn : k = xs.length := by omega
        subst hkn
        have hlaw := put_law n u HK.out
        rw [putFin, ho, hp] at hlaw
        clear g1
        cases pb
        · rw [if_neg (by simp)] at hlaw
          go_wp2_with (at_builtin; refine wpList_append_own _ rfl (.tmp 48) (.tmp 52) 25 rfl w.heap.size 68 i0 _ 2 32 Try.underlying25 hi hz0 hz1 hz2 rfl (by decide) _ _ _ rfl (hown.alloc _) ⟨wr.heap.size, 0, none⟩ 1 1 [.string n, .string u] rfl rfl ?c1 ?c2 ?c3 ?c4 ?c5 ?_)
          case c1 =>
            have hh := heap_alloc_new wr (Obj.cells #[Value.string n, Value.string u] 68)
            exact World.news_of_block hh
          case c2 => intro u hu; simp at hu; rcases hu with rfl | rfl <;> rfl
          case c3 => unfold maxLen; omega
          case c4 => omega
          case c5 => simp; omega
          intro v' w1 hown' hgrow _
          have y_w1 : Ext w w1 := own_ext_of (hx.alloc _) (hown.alloc _) hgrow (Nat.le_refl _)
          have hown2 : w1.ownsRow w.heap.size 68 2 v' (putOut xs n u).length ((putOut xs n u).flatMap Leaf.cells) := by
            rw [← hlaw, List.length_append, List.flatMap_append]
            simpa [Leaf.cells] using hown'
          have hl2 : o.length + 1 = (putOut xs n u).length := by rw [← hlaw, List.length_append]; rfl
          obtain ⟨a, c, rfl⟩ := own_any hown2
          clear hown' hgrow hown hl2 hp ho hlaw
          have hlv : Lvs w1 (.slice a (putOut xs n u).length c) (putOut xs n u) := Row.of_owns hown2
          have HO := Lib.hid hown2
          clear hown2
          cases hk2 : leavesOk (putOut xs n u)
          · have hw : putWell xs n u = false := by rw [putWell, hk2]; simp
            have R := Lib.hid (put_no hw)
            have HW := Lib.hid hw
            have HK2 := Lib.hid hk2
            clear hw hk2
            go_wp2_with (go_at_call 14; refine (impl_LeavesOk _ (putOut xs n u) _ (hlv.ext (by repeat (first | (with_reducible first | exact Ext.refl _ | assumption | apply Ext.alloc | apply Ext.drew | apply Ext.drewN | refine Ext.setCell ?_ ?_ _ | refine Ext.trans ?_ (by assumption)) | (show _ ≤ _; first | omega | (dsimp only; omega) | (simp; done) | (simp; omega))))) (putFit hf hn hu)).mono ?_; rw [HK2.out]; rintro e wk ⟨rfl, xk⟩)
            refine (impl_copyLeaves _ xs _ (h.ext (by repeat (first | (with_reducible first | exact Ext.refl _ | assumption | apply Ext.alloc | apply Ext.drew | apply Ext.drewN | refine Ext.setCell ?_ ?_ _ | refine Ext.trans ?_ (by assumption)) | (show _ ≤ _; first | omega | (dsimp only; omega) | (simp; done) | (simp; omega))))) hv hb).mono ?_
            rintro e w9 ⟨a9, c9, rfl, o9, x9⟩
            have HO := Lib.hid o9
            clear o9
            go_wp2
            go_ret2
            obtain ⟨a3, c3, h3, h4⟩ := ret_own (b := false) rfl R.out HW.out HO.out
            exact ⟨a3, c3, h3, own_mono h4 (Ext.size (show Ext w _ from (by repeat (first | (with_reducible first | exact Ext.refl _ | assumption | apply Ext.alloc | apply Ext.drew | apply Ext.drewN | refine Ext.setCell ?_ ?_ _ | refine Ext.trans ?_ (by assumption)) | (show _ ≤ _; first | omega | (dsimp only; omega) | (simp; done) | (simp; omega)))))), (by repeat (first | (with_reducible first | exact Ext.refl _ | assumption | apply Ext.alloc | apply Ext.drew | apply Ext.drewN | refine Ext.setCell ?_ ?_ _ | refine Ext.trans ?_ (by assumption)) | (show _ ≤ _; first | omega | (dsimp only; omega) | (simp; done) | (simp; omega))))⟩
          · have hw : putWell xs n u = true := by rw [putWell, HK.out, hk2]; rfl
            have R := Lib.hid (put_yes hw)
            have HW := Lib.hid hw
            have HK2 := Lib.hid hk2
            clear hw hk2
            go_wp2_with (go_at_call 14; refine (impl_LeavesOk _ (putOut xs n u) _ (hlv.ext (by repeat (first | (with_reducible first | exact Ext.refl _ | assumption | apply Ext.alloc | apply Ext.drew | apply Ext.drewN | refine Ext.setCell ?_ ?_ _ | refine Ext.trans ?_ (by assumption)) | (show _ ≤ _; first | omega | (dsimp only; omega) | (simp; done) | (simp; omega))))) (putFit hf hn hu)).mono ?_; rw [HK2.out]; rintro e wk ⟨rfl, xk⟩)
            go_ret2
            obtain ⟨a3, c3, h3, h4⟩ := ret_own (b := true) rfl R.out HW.out HO.out
            exact ⟨a3, c3, h3, own_ext h4 xk, (by repeat (first | (with_reducible first | exact Ext.refl _ | assumption | apply Ext.alloc | apply Ext.drew | apply Ext.drewN | refine Ext.setCell ?_ ?_ _ | refine Ext.trans ?_ (by assumption)) | (show _ ≤ _; first | omega | (dsimp only; omega) | (simp; done) | (simp; omega))))⟩
        · rw [if_pos rfl] at hlaw
          clear hp ho
          subst hlaw

          have hlv : Lvs wr (.slice a (putOut xs n u).length c) (putOut xs n u) := Row.of_owns hown
          have HO := Lib.hid hown
          clear hown
          cases hk2 : leavesOk (putOut xs n u)
          · have hw : putWell xs n u = false := by rw [putWell, hk2]; simp
            have R := Lib.hid (put_no hw)
            have HW := Lib.hid hw
            have HK2 := Lib.hid hk2
            clear hw hk2
            go_wp2_with (go_at_call 14; refine (impl_LeavesOk _ (putOut xs n u) _ (hlv.ext (by repeat (first | (with_reducible first | exact Ext.refl _ | assumption | apply Ext.alloc | apply Ext.drew | apply Ext.drewN | refine Ext.setCell ?_ ?_ _ | refine Ext.trans ?_ (by assumption)) | (show _ ≤ _; first | omega | (dsimp only; omega) | (simp; done) | (simp; omega))))) (putFit hf hn hu)).mono ?_; rw [HK2.out]; rintro e wk ⟨rfl, xk⟩)
            refine (impl_copyLeaves _ xs _ (h.ext (by repeat (first | (with_reducible first | exact Ext.refl _ | assumption | apply Ext.alloc | apply Ext.drew | apply Ext.drewN | refine Ext.setCell ?_ ?_ _ | refine Ext.trans ?_ (by assumption)) | (show _ ≤ _; first | omega | (dsimp only; omega) | (simp; done) | (simp; omega))))) hv hb).mono ?_
            rintro e w9 ⟨a9, c9, rfl, o9, x9⟩
            have HO := Lib.hid o9
            clear o9
            go_wp2
            go_ret2
            obtain ⟨a3, c3, h3, h4⟩ := ret_own (b := false) rfl R.out HW.out HO.out
            exact ⟨a3, c3, h3, own_mono h4 (Ext.size (show Ext w _ from (by repeat (first | (with_reducible first | exact Ext.refl _ | assumption | apply Ext.alloc | apply Ext.drew | apply Ext.drewN | refine Ext.setCell ?_ ?_ _ | refine Ext.trans ?_ (by assumption)) | (show _ ≤ _; first | omega | (dsimp only; omega) | (simp; done) | (simp; omega)))))), (by repeat (first | (with_reducible first | exact Ext.refl _ | assumption | apply Ext.alloc | apply Ext.drew | apply Ext.drewN | refine Ext.setCell ?_ ?_ _ | refine Ext.trans ?_ (by assumption)) | (show _ ≤ _; first | omega | (dsimp only; omega) | (simp; done) | (simp; omega))))⟩
          · have hw : putWell xs n u = true := by rw [putWell, HK.out, hk2]; rfl
            have R := Lib.hid (put_yes hw)
            have HW := Lib.hid hw
            have HK2 := Lib.hid hk2
            clear hw hk2
            go_wp2_with (go_at_call 14; refine (impl_LeavesOk _ (putOut xs n u) _ (hlv.ext (by repeat (first | (with_reducible first | exact Ext.refl _ | assumption | apply Ext.alloc | apply Ext.drew | apply Ext.drewN | refine Ext.setCell ?_ ?_ _ | refine Ext.trans ?_ (by assumption)) | (show _ ≤ _; first | omega | (dsimp only; omega) | (simp; done) | (simp; omega))))) (putFit hf hn hu)).mono ?_; rw [HK2.out]; rintro e wk ⟨rfl, xk⟩)
            go_ret2
            obtain ⟨a3, c3, h3, h4⟩ := ret_own (b := true) rfl R.out HW.out HO.out
            exact ⟨a3, c3, h3, own_ext h4 xk, (by repeat (first | (with_reducible first | exact Ext.refl _ | assumption | apply Ext.alloc | apply Ext.drew | apply Ext.drewN | refine Ext.setCell ?_ ?_ _ | refine Ext.trans ?_ (by assumption)) | (show _ ≤ _; first | omega | (dsimp only; omega) | (simp; done) | (simp; omega))))⟩
  · have hk' : leavesOk xs = false := by simpa using hk
    have hw : putWell xs n u = false := by rw [putWell, hk']; rfl
    have R := Lib.hid (put_no hw)
    have HW := Lib.hid hw
    have HK := Lib.hid hk'
    clear hw hk hk' g1
    go_enter Try.func30, Try.ntmps30
    go_wp2_with (go_at_call 14; refine (impl_LeavesOk _ xs _ (h.ext (by repeat (first | (with_reducible first | exact Ext.refl _ | assumption | apply Ext.alloc | apply Ext.drew | apply Ext.drewN | refine Ext.setCell ?_ ?_ _ | refine Ext.trans ?_ (by assumption)) | (show _ ≤ _; first | omega | (dsimp only; omega) | (simp; done) | (simp; omega))))) hf).mono ?_; rw [HK.out]; rintro e w0 ⟨rfl, x0⟩)
    refine (impl_copyLeaves _ xs _ (h.ext (by repeat (first | (with_reducible first | exact Ext.refl _ | assumption | apply Ext.alloc | apply Ext.drew | apply Ext.drewN | refine Ext.setCell ?_ ?_ _ | refine Ext.trans ?_ (by assumption)) | (show _ ≤ _; first | omega | (dsimp only; omega) | (simp; done) | (simp; omega))))) hv hb).mono ?_
    rintro e w9 ⟨a9, c9, rfl, o9, x9⟩
    have HO := Lib.hid o9
    clear o9
    go_wp2
    go_ret2
    obtain ⟨a3, c3, h3, h4⟩ := ret_own (b := false) rfl R.out HW.out HO.out
    exact ⟨a3, c3, h3, own_mono h4 (Ext.size (show Ext w _ from (by repeat (first | (with_reducible first | exact Ext.refl _ | assumption | apply Ext.alloc | apply Ext.drew | apply Ext.drewN | refine Ext.setCell ?_ ?_ _ | refine Ext.trans ?_ (by assumption)) | (show _ ≤ _; first | omega | (dsimp only; omega) | (simp; done) | (simp; omega)))))), (by repeat (first | (with_reducible first | exact Ext.refl _ | assumption | apply Ext.alloc | apply Ext.drew | apply Ext.drewN | refine Ext.setCell ?_ ?_ _ | refine Ext.trans ?_ (by assumption)) | (show _ ≤ _; first | omega | (dsimp only; omega) | (simp; done) | (simp; omega))))⟩
end Go.Proofs.Ytdinfdlakddgfaa
