/- Files of a disk: copies, texts of a file, the program. -/
import Derived.Test.YtckipgijfgeghaaFilA
import Derived.Test.YtckipgijfgeghaaFr
namespace Go.Proofs.Ytckipgijfgeghaa
open Go.RowKit

set_option maxHeartbeats 800000 in
theorem impl_copyDisk (v : Value) (xs : List Fil) (w : World) (h : Fls w v xs) (hv : Solid v) (hb : xs.length ≤ 30) :
    Calls Try.prog 79 #[.agg #[v]] w fun e w' => ∃ a c, e = .returned (.agg #[.slice a xs.length c]) ∧ OwnFls w' w.heap.size (.slice a xs.length c) xs ∧ Ext w w' := by
  obtain ⟨i0, hi, hz0, hz1, hz2⟩ := info_parts infoFil
  obtain ⟨a1, c1, rfl⟩ := h.form
  go_enter Try.func79, Try.ntmps79
  go_wp2_with (at_builtin; refine wpList_append_any rfl (.const (.slice none 0 0)) (.tmp 4) 36 rfl (w.heap.size + 2) 113 i0 _ 3 40 Try.underlying36 hi hz0 hz1 hz2 rfl (by decide) _ 0 [] rfl (World.ownsRow_nil _ _ _ _) (.slice a1 xs.length c1) xs.length (xs.flatMap Fil.cells) rfl (Row.ext h (by repeat (first | (with_reducible first | exact Ext.refl _ | assumption | apply Ext.alloc | apply Ext.drew | apply Ext.drewN | refine Ext.setCell ?_ ?_ _ | refine Ext.trans ?_ (by assumption)) | (show _ ≤ _; first | omega | (dsimp only; omega) | (simp; done) | (simp; omega))))) hv (fil_one xs) ?c3 ?c4 ?c5 ?_)
  case c3 => unfold maxLen; omega
  case c4 => omega
  case c5 => simp
  intro v' w1 hown' hgrow
  have xg : Ext ((w.alloc (Obj.cells #[.slice a1 xs.length c1] 38)).alloc (Obj.cells #[.slice none 0 0] 38)) w1 := Ext.grown (Ext.refl _) hgrow (by simp [Value.ownBlock])
  have P0 := Bx.new (w.alloc (Obj.cells #[.slice a1 xs.length c1] 38)) #[.slice none 0 0] 38
  rw [World.size_alloc] at P0
  have P1 := P0.ext xg
  have hx1 : Ext w w1 := (show Ext w _ from (by repeat (first | (with_reducible first | exact Ext.refl _ | assumption | apply Ext.alloc | apply Ext.drew | apply Ext.drewN | refine Ext.setCell ?_ ?_ _ | refine Ext.trans ?_ (by assumption)) | (show _ ≤ _; first | omega | (dsimp only; omega) | (simp; done) | (simp; omega))))).trans xg
  obtain ⟨a', c', rfl⟩ := own_any hown'
  have HO := Lib.hid (own_mono (own_below hown' (p := ⟨w.heap.size + 1, 0, none⟩) (u := .slice a' xs.length c') (by dsimp only; omega)) (show w.heap.size ≤ w.heap.size + 2 by omega))
  clear hown' hgrow xg P0
  have z0 := P1.2.1 0 _ rfl
  have f0 := P1.2.2 0
  have XF := hx1.setCell (p := ⟨w.heap.size + 1, 0, none⟩) (by dsimp only; omega) (.slice a' xs.length c')
  have RF := P1.set 0 (.slice a' xs.length c') (by simp)
  go_wp2
  generalize w1.setCell ⟨w.heap.size + 1, 0, none⟩ (.slice a' xs.length c') = WF at *
  have k0 := RF.2.1 0 _ rfl
  refine bodyPost_ret (v := .agg #[.slice a' xs.length c']) (by simp [results, Try.results79, go_sem, k0]) rfl ?_
  exact ⟨a', c', rfl, HO.out, XF⟩

set_option maxHeartbeats 800000 in
theorem impl_FileAt (v : Value) (xs : List Fil) (n : ByteArray) (w : World) (h : Fls w v xs) :
    (∀ k (hk : k < xs.length), fAt xs n = k → Calls Try.prog 42 #[.agg #[v], .string n] w fun e w' => e = .returned (.tuple #[.string xs[k].text, .bool true]) ∧ Ext w w') ∧
    (fAt xs n = -1 → Calls Try.prog 42 #[.agg #[v], .string n] w fun e w' => e = .returned (.tuple #[.string ⟨#[]⟩, .bool false]) ∧ Ext w w') := by
  obtain ⟨a1, c1, rfl⟩ := h.form
  constructor
  · intro k hk he
    have HE := Lib.hid he
    clear he
    obtain ⟨-, a2, c2, hv, hc1, hm1, g1⟩ := id h
    injection hv with e1 e2 e3
    subst e1 e3
    unfold maxLen at hm1
    rcases g1 with g1 | ⟨b1, o1, rfl, hb1, g1⟩
    · omega
    have e4 := g1 _ _ (fil_c1 xs k hk)
    clear g1
    go_enter Try.func42, Try.ntmps42
    go_wp2_with fail
    refine (impl_fileAt _ xs n _ (h.ext (by repeat (first | (with_reducible first | exact Ext.refl _ | assumption | apply Ext.alloc | apply Ext.drew | apply Ext.drewN | refine Ext.setCell ?_ ?_ _ | refine Ext.trans ?_ (by assumption)) | (show _ ≤ _; first | omega | (dsimp only; omega) | (simp; done) | (simp; omega)))))).mono ?_
    rw [HE.out]
    rintro e w1 ⟨rfl, x1⟩
    have x0 : Ext w w1 := (by repeat (first | (with_reducible first | exact Ext.refl _ | assumption | apply Ext.alloc | apply Ext.drew | apply Ext.drewN | refine Ext.setCell ?_ ?_ _ | refine Ext.trans ?_ (by assumption)) | (show _ ≤ _; first | omega | (dsimp only; omega) | (simp; done) | (simp; omega))))
    have z1 : w1.cell? ⟨w.heap.size, 0, none⟩ = some (.slice (some ⟨b1, o1, none⟩) xs.length c1) := (x1.cell _ 0 (by rw [World.size_alloc]; omega)).trans (by simp)
    have e5 : w1.cell? ⟨b1, o1 + k * 3 + 1, none⟩ = some (.string xs[k].text) := (x0.cell b1 _ hb1).trans e4
    have k0 : decide ((k : Int) < 0) = false := by simp
    have k1 : (0 : Int) ≤ k := by omega
    have k2 : (k : Int) < xs.length := by omega
    clear e4 x1
    go_wp2
    go_ret2
    exact ⟨rfl, x0⟩
  · intro he
    have HE := Lib.hid he
    clear he
    go_enter Try.func42, Try.ntmps42
    go_wp2_with fail
    refine (impl_fileAt _ xs n _ (h.ext (by repeat (first | (with_reducible first | exact Ext.refl _ | assumption | apply Ext.alloc | apply Ext.drew | apply Ext.drewN | refine Ext.setCell ?_ ?_ _ | refine Ext.trans ?_ (by assumption)) | (show _ ≤ _; first | omega | (dsimp only; omega) | (simp; done) | (simp; omega)))))).mono ?_
    rw [HE.out]
    rintro e w1 ⟨rfl, x1⟩
    have x0 : Ext w w1 := (by repeat (first | (with_reducible first | exact Ext.refl _ | assumption | apply Ext.alloc | apply Ext.drew | apply Ext.drewN | refine Ext.setCell ?_ ?_ _ | refine Ext.trans ?_ (by assumption)) | (show _ ≤ _; first | omega | (dsimp only; omega) | (simp; done) | (simp; omega))))
    clear x1
    go_wp2
    go_ret2
    exact ⟨rfl, x0⟩

set_option maxHeartbeats 800000 in
/-- the records of a file of a right disk -/
theorem impl_LogTexts (v : Value) (xs : List Fil) (n : ByteArray) (k : Nat) (hk : k < xs.length) (w : World) (h : Fls w v xs) (hs : FilFit xs) (he : fAt xs n = k) (ho : diskOk xs = true) (hz : xs[k].text.size ≤ 20000) :
    Calls Try.prog 19 #[.agg #[v], .string n] w fun e w' => ∃ (ss : List ByteArray) (m : Nat) (oa : Option Addr) (oc : Nat), e = .returned (.slice oa ss.length oc) ∧ OwnStrs w' w.heap.size (.slice oa ss.length oc) ss ∧ Unfr xs[k].text.data.toList ss m ∧ Ext w w' := by
  have HE := Lib.hid he
  have HO := Lib.hid ho
  clear he ho
  obtain ⟨a1, c1, rfl⟩ := h.form
  go_enter Try.func19, Try.ntmps19
  go_wp2_with fail
  refine ((impl_FileAt _ xs n _ (h.ext (by repeat (first | (with_reducible first | exact Ext.refl _ | assumption | apply Ext.alloc | apply Ext.drew | apply Ext.drewN | refine Ext.setCell ?_ ?_ _ | refine Ext.trans ?_ (by assumption)) | (show _ ≤ _; first | omega | (dsimp only; omega) | (simp; done) | (simp; omega)))))).1 k hk HE.out).mono ?_
  rintro e w1 ⟨rfl, x1⟩
  have x0 : Ext w w1 := (by repeat (first | (with_reducible first | exact Ext.refl _ | assumption | apply Ext.alloc | apply Ext.drew | apply Ext.drewN | refine Ext.setCell ?_ ?_ _ | refine Ext.trans ?_ (by assumption)) | (show _ ≤ _; first | omega | (dsimp only; omega) | (simp; done) | (simp; omega))))
  have z1 : w1.cell? ⟨w.heap.size, 0, none⟩ = some (.slice a1 xs.length c1) := (x1.cell _ 0 (by rw [World.size_alloc]; omega)).trans (by simp)
  clear x1
  go_wp2_with fail
  refine (impl_DiskOk _ xs _ (h.ext (by repeat (first | (with_reducible first | exact Ext.refl _ | assumption | apply Ext.alloc | apply Ext.drew | apply Ext.drewN | refine Ext.setCell ?_ ?_ _ | refine Ext.trans ?_ (by assumption)) | (show _ ≤ _; first | omega | (dsimp only; omega) | (simp; done) | (simp; omega))))) hs).mono ?_
  rw [HO.out]
  rintro e w2 ⟨rfl, x2⟩
  have x3 := x0.trans x2
  clear x0 x2 z1
  go_wp2_with fail
  refine (impl_Unframe _ _ hz).mono ?_
  rintro e w4 ⟨ss, m, oa, oc, rfl, ow, hu, x4⟩
  have HU := Lib.hid hu
  have HW := Lib.hid ow
  have x5 := x3.trans x4
  clear hu ow x4
  go_wp2
  go_ret
  exact ⟨ss, m, oa, oc, rfl, own_mono HW.out x3.size, HU.out, x5⟩
theorem impl_LogTexts_none (v : Value) (xs : List Fil) (n : ByteArray) (w : World) (h : Fls w v xs) (he : fAt xs n = -1) :
    Calls Try.prog 19 #[.agg #[v], .string n] w fun e w' => e = .returned (.slice none 0 0) ∧ Ext w w' := by
  have HE := Lib.hid he
  clear he
  obtain ⟨a1, c1, rfl⟩ := h.form
  go_enter Try.func19, Try.ntmps19
  go_wp2_with fail
  refine ((impl_FileAt _ xs n _ (h.ext (by repeat (first | (with_reducible first | exact Ext.refl _ | assumption | apply Ext.alloc | apply Ext.drew | apply Ext.drewN | refine Ext.setCell ?_ ?_ _ | refine Ext.trans ?_ (by assumption)) | (show _ ≤ _; first | omega | (dsimp only; omega) | (simp; done) | (simp; omega)))))).2 HE.out).mono ?_
  rintro e w1 ⟨rfl, x1⟩
  have x0 : Ext w w1 := (by repeat (first | (with_reducible first | exact Ext.refl _ | assumption | apply Ext.alloc | apply Ext.drew | apply Ext.drewN | refine Ext.setCell ?_ ?_ _ | refine Ext.trans ?_ (by assumption)) | (show _ ≤ _; first | omega | (dsimp only; omega) | (simp; done) | (simp; omega))))
  clear x1
  go_wp2
  go_ret
  exact ⟨rfl, x0⟩
end Go.Proofs.Ytckipgijfgeghaa
