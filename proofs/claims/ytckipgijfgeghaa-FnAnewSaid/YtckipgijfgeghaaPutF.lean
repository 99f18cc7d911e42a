/- A file put in its place: the reference. -/
import Derived.Test.YtckipgijfgeghaaFilB
import Derived.Test.YtckipgijfgeghaaDskP
import Derived.Test.YtckipgijfgeghaaSgO
import Derived.Deep.RegionLaw
import Derived.Deep.AppendLies
namespace Go.Proofs.Ytckipgijfgeghaa
open Go.RowKit

def ltF (f x : Fil) : Bool := Op.bytesLess x.name.toList f.name.toList
def gtF (f x : Fil) : Bool := !(Op.bytesLess x.name.toList f.name.toList || x.name.toList == f.name.toList)
def putF (xs : List Fil) (f : Fil) : List Fil := xs.filter (ltF f) ++ [f] ++ xs.filter (gtF f)
theorem filt_yes {p : Fil → Bool} {xs : List Fil} {k : Nat} (hk : k < xs.length) (h : p xs[k] = true) : (xs.take (k + 1)).filter p = (xs.take k).filter p ++ [xs[k]] := by
  rw [List.take_succ_eq_append_getElem hk, List.filter_append]; simp [h]
theorem filt_no {p : Fil → Bool} {xs : List Fil} {k : Nat} (hk : k < xs.length) (h : p xs[k] = false) : (xs.take (k + 1)).filter p = (xs.take k).filter p := by
  rw [List.take_succ_eq_append_getElem hk, List.filter_append]; simp [h]
theorem filt_len (p : Fil → Bool) (xs : List Fil) (k : Nat) : ((xs.take k).filter p).length ≤ k := Nat.le_trans (List.length_filter_le _ _) (by simp; omega)
/-- what l06Put holds: its four boxes and the files that it has put so far -/
def PutI (w wr : World) (v : Value) (f : Fil) (ys : List Fil) : Prop := ∃ (a : Option Addr) (c : Nat), Bx wr w.heap.size [v] ∧ Bx wr (w.heap.size + 1) [.string f.name, .string f.text, .int .i64 f.kept] ∧ Bx wr (w.heap.size + 1 + 1) [.slice none 0 0] ∧ Bx wr (w.heap.size + 1 + 1 + 1) [.slice a ys.length c] ∧ wr.ownsRow (w.heap.size + 1 + 1 + 1 + 1) 113 3 (.slice a ys.length c) ys.length (ys.flatMap Fil.cells) ∧ Ext w wr
theorem PutI.drew {w wr : World} {v : Value} {f : Fil} {ys : List Fil} (h : PutI w wr v f ys) (n : Nat) : PutI w (wr.drewN n) v f ys := by
  obtain ⟨a, c, h1, h2, h3, h4, h5, h6⟩ := h
  have x := (Ext.refl wr).drewN n
  exact ⟨a, c, h1.ext x, h2.ext x, h3.ext x, h4.ext x, own_ext h5 x, h6.trans x⟩
/-- behind an append and its store -/
theorem putI_app {w wr wa w1 : World} {v : Value} {f : Fil} {ys : List Fil} {a a' : Option Addr} {c c' : Nat} {x : Fil} (xa : Ext wr wa)
    (h1 : Bx wr w.heap.size [v]) (h2 : Bx wr (w.heap.size + 1) [.string f.name, .string f.text, .int .i64 f.kept]) (h3 : Bx wr (w.heap.size + 1 + 1) [.slice none 0 0]) (h4 : Bx wr (w.heap.size + 1 + 1 + 1) [.slice a ys.length c]) (h5 : wr.ownsRow (w.heap.size + 1 + 1 + 1 + 1) 113 3 (.slice a ys.length c) ys.length (ys.flatMap Fil.cells)) (h6 : Ext w wr)
    (ho : w1.ownsRow (w.heap.size + 1 + 1 + 1 + 1) 113 3 (.slice a' (ys.length + 1) c') (ys.length + 1) (ys.flatMap Fil.cells ++ [.string x.name, .string x.text, .int .i64 x.kept])) (hg : wa.grownBy w1 (Value.slice a ys.length c).ownBlock) :
    PutI w (w1.setCell ⟨w.heap.size + 1 + 1 + 1, 0, none⟩ (.slice a' (ys.length + 1) c')) v f (ys ++ [x]) := by
  have hf : ∀ b, b < w.heap.size + 1 + 1 + 1 + 1 → (Value.slice a ys.length c).ownBlock ≠ some b := fun b hb e => by have := (own_lt h5 b e).1; omega
  have hl : (ys ++ [x]).length = ys.length + 1 := by simp
  have hc : (ys ++ [x]).flatMap Fil.cells = ys.flatMap Fil.cells ++ [.string x.name, .string x.text, .int .i64 x.kept] := by simp [Fil.cells]
  refine ⟨a', c', ((h1.ext xa).grew hg (hf _ (by omega))).far (by omega) _ _, ((h2.ext xa).grew hg (hf _ (by omega))).far (by omega) _ _, ((h3.ext xa).grew hg (hf _ (by omega))).far (by omega) _ _, ?_, ?_, ?_⟩
  · rw [hl]; exact ((h4.ext xa).grew hg (hf _ (by omega))).set 0 _ (by simp)
  · rw [hl, hc]; exact own_below ho (by dsimp only; omega)
  · exact (own_ext_of (h6.trans xa) (own_ext h5 xa) hg (by omega)).setCell (by dsimp only; omega) _

set_option maxRecDepth 100000 in
set_option maxHeartbeats 3200000 in
theorem spec_l06Put (v : Value) (xs : List Fil) (f : Fil) (w : World) (h : Fls w v xs) (hb : xs.length ≤ 30) :
    Calls Try.prog 107 #[.agg #[v], .agg #[.string f.name, .string f.text, .int .i64 f.kept]] w fun e w' => ∃ a c, e = .returned (.agg #[.slice a (putF xs f).length c]) ∧ OwnFls w' w.heap.size (.slice a (putF xs f).length c) (putF xs f) ∧ Ext w w' := by
  obtain ⟨i0, hi, hz0, hz1, hz2⟩ := info_parts infoFil
  obtain ⟨-, a1, c1, rfl, hc1, hm1, g1⟩ := h
  unfold maxLen at hm1
  have HZ := Lib.hid (And.intro hz1 hz2)
  go_enter Try.func107, Try.ntmps107
  go_wp2
  go_loopw [6] (fun i wr => ∃ k : Nat, k ≤ xs.length ∧ i = .int .i64 k ∧ PutI w wr (.slice a1 xs.length c1) f ((xs.take k).filter (ltF f))) (fun i _ => xs.length - (intOf i).toNat)
  case atStart => 
    have P3 := Bx.new (w.alloc (Obj.cells #[.slice a1 xs.length c1] 38)) #[.string f.name, .string f.text, .int .i64 f.kept] 113
    have P4 := Bx.new ((w.alloc (Obj.cells #[.slice a1 xs.length c1] 38)).alloc (Obj.cells #[.string f.name, .string f.text, .int .i64 f.kept] 113)) #[.slice none 0 0] 38
    have P5 := Bx.new (((w.alloc (Obj.cells #[.slice a1 xs.length c1] 38)).alloc (Obj.cells #[.string f.name, .string f.text, .int .i64 f.kept] 113)).alloc (Obj.cells #[.slice none 0 0] 38)) #[.slice none 0 0] 38
    rw [World.size_alloc] at P3
    rw [World.size_alloc, World.size_alloc] at P4
    rw [World.size_alloc, World.size_alloc, World.size_alloc] at P5
    exact ⟨0, Nat.zero_le _, rfl, none, 0, (Bx.new w _ _).ext ((((Ext.refl _).alloc _).alloc _).alloc _), P3.ext (((Ext.refl _).alloc _).alloc _), P4.ext ((Ext.refl _).alloc _), P5, World.ownsRow_nil _ _ _ _, ((((Ext.refl w).alloc _).alloc _).alloc _).alloc _⟩
  case round =>
    obtain ⟨k, hk, rfl, hI⟩ := hrel
    obtain ⟨ys, hys⟩ : ∃ ys, ys = ((xs.take k).filter (ltF f)) := ⟨_, rfl⟩
    rw [← hys] at hI
    have HYS := Lib.hid hys
    clear hys
    obtain ⟨a, c, P2, P3, P4, P5, ow, X⟩ := id hI
    have z2 := P2.2.1 0 _ rfl
    have l2 := P2.1
    by_cases hlt : k < xs.length
    · rcases g1 with g1 | ⟨b1, o1, rfl, hb1, g1⟩
      · omega
      have e1 : wr.cell? ⟨b1, o1 + k * 3, none⟩ = some (.string xs[k].name) := (X.cell b1 _ hb1).trans (g1 _ _ (fil_c0 xs k hlt))
      have e2 : wr.cell? ⟨b1, o1 + k * 3 + 1, none⟩ = some (.string xs[k].text) := (X.cell b1 _ hb1).trans (g1 _ _ (fil_c1 xs k hlt))
      have e3 : wr.cell? ⟨b1, o1 + k * 3 + 2, none⟩ = some (.int .i64 xs[k].kept) := (X.cell b1 _ hb1).trans (g1 _ _ (fil_c2 xs k hlt))
      have z30 := P3.2.1 0 _ rfl
      have k1 : (0 : Int) ≤ k := by omega
      have k2 : (k : Int) < xs.length := by omega
      clear g1
      cases hq : Op.bytesLess xs[k].name.toList f.name.toList
      · have HU := Lib.hid (filt_no (p := ltF f) hlt hq)
        have HI := Lib.hid hI
        clear hI P2 P3 P4 P5 ow X
        go_wp2
        go_quiet (fail)
        go_wp2
        go_roundw
        case rel => exact ⟨k + 1, by omega, by go_num, by rw [HU.out, ← HYS.out]; exact HI.out.drew _⟩
        case measure => simp [intOf]; omega
      · have HU := Lib.hid (filt_yes (p := ltF f) hlt hq)
        have hle : ys.length ≤ 61 := by rw [HYS.out]; exact Nat.le_trans (filt_len _ _ _) (by omega)
        have HI := Lib.hid hI
        have hzr := X.size
        clear hI P2 P3 P4 P5 ow X
        go_wp2
        go_quiet (fail)
        have hI := HI.out.drew nq
        clear HI z2 l2 z30
        replace e1 := ((Ext.refl wr).drewN nq |>.cell b1 _ (Nat.lt_of_lt_of_le hb1 hzr)).trans e1
        replace e2 := ((Ext.refl wr).drewN nq |>.cell b1 _ (Nat.lt_of_lt_of_le hb1 hzr)).trans e2
        replace e3 := ((Ext.refl wr).drewN nq |>.cell b1 _ (Nat.lt_of_lt_of_le hb1 hzr)).trans e3
        generalize wr.drewN nq = wq at *
        obtain ⟨a, c, P2, P3, P4, P5, ow, X⟩ := hI
        have z2 := P2.2.1 0 _ rfl
        have z5 := P5.2.1 0 _ rfl
        have f5 := P5.2.2 0
        have l2 := P2.1
        have l5 := P5.1
        have OW := Lib.hid ow
        clear ow
        go_wp2
        go_region_law ((refine step_append_lies _ rfl (.tmp 26) (.tmp 32) 36 (by rfl) (w.heap.size + 1 + 1 + 1 + 1) 113 i0 _ 3 40 Try.underlying36 hi hz0 hz1 hz2 rfl (by decide) _ _ _ (by rfl) (own_alloc (own_drew OW.out) _) ⟨wq.heap.size, 0, none⟩ 1 1 [.string xs[k].name, .string xs[k].text, .int .i64 xs[k].kept] (by rfl) rfl (World.news_of_block (heap_alloc_new wq.drew (Obj.cells #[.string xs[k].name, .string xs[k].text, .int .i64 xs[k].kept] 113))) (by intro u hu; simp at hu; rcases hu with rfl | rfl | rfl <;> rfl) (by decide) (by unfold maxLen; omega) (by omega) (by simp; omega) _ rfl ?_; intro g cap w9 hown9 hgrow _ _; have xa : Ext wq (wq.alloc (Obj.cells #[.string xs[k].name, .string xs[k].text, .int .i64 xs[k].kept] 113)).drew := ((Ext.refl wq).alloc _).drew; have P9 := (P5.ext xa).grew hgrow (fun e => by have := (own_lt OW.out _ e).1; omega); have c9 := P9.2.1 0 _ rfl; have f9 := P9.2.2 0; have R9 := Lib.hid (putI_app xa P2 P3 P4 P5 OW.out X hown9 hgrow); clear P9 hown9 hgrow))
        all_goals
          go_wp2
          go_roundw
          case rel => exact ⟨k + 1, by omega, by go_num, by rw [HU.out, ← HYS.out]; exact R9.out⟩
          case measure => simp [intOf]; omega
    · obtain rfl : k = xs.length := by omega
      have hle : ys.length ≤ 30 := by rw [HYS.out]; exact Nat.le_trans (filt_len _ _ _) hb
      have HY1 := Lib.hid (show ys = xs.filter (ltF f) by rw [HYS.out, List.take_length])
      have z5 := P5.2.1 0 _ rfl
      have f5 := P5.2.2 0
      have z30 := P3.2.1 0 _ rfl
      have z31 := P3.2.1 1 _ rfl
      have z32 := P3.2.1 2 _ rfl
      have l2 := P2.1
      have l5 := P5.1
      have OW := Lib.hid ow
      clear ow hI
      go_wp2_with (at_builtin; refine wpList_append_own _ rfl (.tmp 36) (.tmp 38) 36 rfl (w.heap.size + 1 + 1 + 1 + 1) 113 i0 _ 3 40 Try.underlying36 hi hz0 hz1 hz2 rfl (by decide) _ _ _ rfl (own_alloc OW.out _) ⟨wr.heap.size, 0, none⟩ 1 1 [.string f.name, .string f.text, .int .i64 f.kept] rfl rfl ?c1 ?c2 ?c3 ?c4 ?c5 ?_)
      case c1 => exact World.news_of_block (heap_alloc_new wr (Obj.cells #[.string f.name, .string f.text, .int .i64 f.kept] 113))
      case c2 => intro u hu; simp at hu; rcases hu with rfl | rfl | rfl <;> rfl
      case c3 => unfold maxLen; omega
      case c4 => omega
      case c5 => rw [World.size_alloc]; omega
      intro v' w9 hown9 hgrow _
      obtain ⟨g, cap, rfl⟩ := own_form hown9 (by omega)
      have xa : Ext wr (wr.alloc (Obj.cells #[.string f.name, .string f.text, .int .i64 f.kept] 113)) := (Ext.refl wr).alloc _
      have P9 := (P5.ext xa).grew hgrow (fun e => by have := (own_lt OW.out _ e).1; omega)
      have c9 := P9.2.1 0 _ rfl
      have f9 := P9.2.2 0
      have R9 := Lib.hid (putI_app (x := f) xa P2 P3 P4 P5 OW.out X hown9 hgrow)
      clear P9 hown9 hgrow xa z5 f5 z30 z31 z32 OW P2 P3 P4 P5 X z2
      go_wp2
      go_loopw [7] (fun i wr => ∃ k : Nat, k ≤ xs.length ∧ i = .int .i64 k ∧ PutI w wr (.slice a1 xs.length c1) f (xs.filter (ltF f) ++ [f] ++ (xs.take k).filter (gtF f))) (fun i _ => xs.length - (intOf i).toNat)
      case atStart => exact ⟨0, Nat.zero_le _, rfl, by rw [List.take_zero, List.filter_nil, List.append_nil, ← HY1.out]; exact R9.out⟩
      case round =>
        obtain ⟨k, hk, rfl, hI⟩ := hrel
        obtain ⟨ys, hys⟩ : ∃ ys, ys = (xs.filter (ltF f) ++ [f] ++ (xs.take k).filter (gtF f)) := ⟨_, rfl⟩
        rw [← hys] at hI
        have HYS := Lib.hid hys
        clear hys
        obtain ⟨a, c, P2, P3, P4, P5, ow, X⟩ := id hI
        have z2 := P2.2.1 0 _ rfl
        have l2 := P2.1
        by_cases hlt : k < xs.length
        · rcases g1 with g1 | ⟨b1, o1, rfl, hb1, g1⟩
          · omega
          have e1 : wr.cell? ⟨b1, o1 + k * 3, none⟩ = some (.string xs[k].name) := (X.cell b1 _ hb1).trans (g1 _ _ (fil_c0 xs k hlt))
          have e2 : wr.cell? ⟨b1, o1 + k * 3 + 1, none⟩ = some (.string xs[k].text) := (X.cell b1 _ hb1).trans (g1 _ _ (fil_c1 xs k hlt))
          have e3 : wr.cell? ⟨b1, o1 + k * 3 + 2, none⟩ = some (.int .i64 xs[k].kept) := (X.cell b1 _ hb1).trans (g1 _ _ (fil_c2 xs k hlt))
          have z30 := P3.2.1 0 _ rfl
          have k1 : (0 : Int) ≤ k := by omega
          have k2 : (k : Int) < xs.length := by omega
          clear g1
          cases hq : Op.bytesLess xs[k].name.toList f.name.toList
          case true =>
            have HU := Lib.hid (filt_no (p := gtF f) hlt (by rw [gtF, hq]; rfl))
            have HI := Lib.hid hI
            clear hI P2 P3 P4 P5 ow X
            go_wp2
            go_quiet (fail)
            go_wp2
            go_roundw
            case rel => exact ⟨k + 1, by omega, by go_num, by rw [HU.out, ← HYS.out]; exact HI.out.drew _⟩
            case measure => simp [intOf]; omega
          cases hq2 : (xs[k].name.toList == f.name.toList)
          case true =>
            have HU := Lib.hid (filt_no (p := gtF f) hlt (by rw [gtF, hq, hq2]; rfl))
            have HI := Lib.hid hI
            clear hI P2 P3 P4 P5 ow X
            go_wp2
            go_quiet (fail)
            go_wp2
            go_roundw
            case rel => exact ⟨k + 1, by omega, by go_num, by rw [HU.out, ← HYS.out]; exact HI.out.drew _⟩
            case measure => simp [intOf]; omega
          · have HU := Lib.hid (filt_yes (p := gtF f) hlt (by rw [gtF, hq, hq2]; rfl))
            have hle : ys.length ≤ 61 := by rw [HYS.out]; exact by have h1 := filt_len (ltF f) xs xs.length; have h2 := filt_len (gtF f) xs k; rw [List.take_length] at h1; simp only [List.length_append, List.length_singleton]; omega
            have HI := Lib.hid hI
            have hzr := X.size
            clear hI P2 P3 P4 P5 ow X
            go_wp2
            go_quiet (fail)
            have hI := HI.out.drew nq
            clear HI z2 l2 z30
            replace e1 := ((Ext.refl wr).drewN nq |>.cell b1 _ (Nat.lt_of_lt_of_le hb1 hzr)).trans e1
            replace e2 := ((Ext.refl wr).drewN nq |>.cell b1 _ (Nat.lt_of_lt_of_le hb1 hzr)).trans e2
            replace e3 := ((Ext.refl wr).drewN nq |>.cell b1 _ (Nat.lt_of_lt_of_le hb1 hzr)).trans e3
            generalize wr.drewN nq = wq at *
            obtain ⟨a, c, P2, P3, P4, P5, ow, X⟩ := hI
            have z2 := P2.2.1 0 _ rfl
            have z5 := P5.2.1 0 _ rfl
            have f5 := P5.2.2 0
            have l2 := P2.1
            have l5 := P5.1
            have OW := Lib.hid ow
            clear ow
            go_wp2
            go_region_law ((refine step_append_lies _ rfl (.tmp 58) (.tmp 64) 36 (by rfl) (w.heap.size + 1 + 1 + 1 + 1) 113 i0 _ 3 40 Try.underlying36 hi hz0 hz1 hz2 rfl (by decide) _ _ _ (by rfl) (own_alloc (own_drew OW.out) _) ⟨wq.heap.size, 0, none⟩ 1 1 [.string xs[k].name, .string xs[k].text, .int .i64 xs[k].kept] (by rfl) rfl (World.news_of_block (heap_alloc_new wq.drew (Obj.cells #[.string xs[k].name, .string xs[k].text, .int .i64 xs[k].kept] 113))) (by intro u hu; simp at hu; rcases hu with rfl | rfl | rfl <;> rfl) (by decide) (by unfold maxLen; omega) (by omega) (by simp; omega) _ rfl ?_; intro g cap w9 hown9 hgrow _ _; have xa : Ext wq (wq.alloc (Obj.cells #[.string xs[k].name, .string xs[k].text, .int .i64 xs[k].kept] 113)).drew := ((Ext.refl wq).alloc _).drew; have P9 := (P5.ext xa).grew hgrow (fun e => by have := (own_lt OW.out _ e).1; omega); have c9 := P9.2.1 0 _ rfl; have f9 := P9.2.2 0; have R9 := Lib.hid (putI_app xa P2 P3 P4 P5 OW.out X hown9 hgrow); clear P9 hown9 hgrow))
            all_goals
              go_wp2
              go_roundw
              case rel => exact ⟨k + 1, by omega, by go_num, by rw [HU.out, ← List.append_assoc, ← HYS.out]; exact R9.out⟩
              case measure => simp [intOf]; omega
        · obtain rfl : k = xs.length := by omega
          have HY2 := Lib.hid (show ys = putF xs f by rw [HYS.out, List.take_length]; rfl)
          have z4 := P4.2.1 0 _ rfl
          have f4 := P4.2.2 0
          have z5 := P5.2.1 0 _ rfl
          have l4 := P4.1
          have XF := X.setCell (p := ⟨w.heap.size + 1 + 1, 0, none⟩) (by dsimp only; omega) (.slice a ys.length c)
          have RF := P4.set 0 (.slice a ys.length c) (by simp)
          have OF := Lib.hid (own_mono (own_below ow (p := ⟨w.heap.size + 1 + 1, 0, none⟩) (u := .slice a ys.length c) (by dsimp only; omega)) (show w.heap.size ≤ w.heap.size + 1 + 1 + 1 + 1 by omega))
          clear ow hI
          go_wp2
          generalize wr.setCell ⟨w.heap.size + 1 + 1, 0, none⟩ (.slice a ys.length c) = WF at *
          have k0 := RF.2.1 0 _ rfl
          refine bodyPost_ret (v := .agg #[.slice a ys.length c]) (by simp [results, Try.results107, go_sem, k0]) rfl ?_
          rw [← HY2.out]
          exact ⟨a, c, rfl, OF.out, XF⟩
end Go.Proofs.Ytckipgijfgeghaa
