/- Operations on a disk, one after the other: the program. -/
import Derived.Test.YtckipgijfgeghaaActI
namespace Go.Proofs.Ytckipgijfgeghaa
open Go.RowKit

/-- each operation of qs takes the disk on, from one of the states to the next -/
def StepsI (qs : List ActV) (st : Nat → List Fil) : Prop := ∀ k (hk : k < qs.length) (a : Option Addr) (c : Nat) (w : World), Fls w (.slice a (st k).length c) (st k) → Solid (.slice a (st k).length c) →
    Calls Try.prog 80 #[.agg #[.slice a (st k).length c], .agg #[.int .i64 qs[k].kind, .string qs[k].name, .string qs[k].text, .string qs[k].to_]] w fun e w' => ∃ a' c', e = .returned (.tuple #[.agg #[.slice a' (st (k + 1)).length c'], .bool true]) ∧ OwnFls w' w.heap.size (.slice a' (st (k + 1)).length c') (st (k + 1)) ∧ Ext w w'

set_option maxRecDepth 100000 in
set_option maxHeartbeats 1600000 in
theorem impl_DoActs (v l : Value) (qs : List ActV) (st : Nat → List Fil) (w : World) (h : Fls w v (st 0)) (hv : Solid v) (hb : (st 0).length ≤ 30) (hl : Acs w l qs) (hs : StepsI qs st) :
    Calls Try.prog 48 #[.agg #[v], l] w fun e w' => ∃ a c, e = .returned (.tuple #[.agg #[.slice a (st qs.length).length c], .int .i64 qs.length]) ∧ OwnFls w' w.heap.size (.slice a (st qs.length).length c) (st qs.length) ∧ Ext w w' := by
  have HS := Lib.hid hs
  clear hs
  obtain ⟨a1, c1, rfl⟩ := h.form
  obtain ⟨-, a2, c2, rfl, hc2, hm2, g2⟩ := hl
  unfold maxLen at hm2
  have P4 := Bx.new (w.alloc (Obj.cells #[.slice a1 (st 0).length c1] 38)) #[.slice none 0 0] 38
  have P2 := Bx.new w #[.slice a1 (st 0).length c1] 38
  have X : Ext w ((w.alloc (Obj.cells #[.slice a1 (st 0).length c1] 38)).alloc (Obj.cells #[.slice none 0 0] 38)) := ((Ext.refl w).alloc _).alloc _
  replace P2 := P2.ext (show Ext _ ((w.alloc (Obj.cells #[.slice a1 (st 0).length c1] 38)).alloc (Obj.cells #[.slice none 0 0] 38)) from (Ext.refl _).alloc _)
  rw [World.size_alloc] at P4
  go_enter Try.func48, Try.ntmps48
  go_wp2_with fail
  generalize (w.alloc (Obj.cells #[.slice a1 (st 0).length c1] 38)).alloc (Obj.cells #[.slice none 0 0] 38) = w0 at *
  have z2 := P2.2.1 0 _ rfl
  go_wp2_with fail
  refine (impl_copyDisk _ (st 0) _ (h.ext X) hv hb).mono ?_
  rintro e w4 ⟨oa, oc, rfl, ow, x4⟩
  have hB2 := P4.1
  replace P4 := P4.ext x4
  replace X := X.trans x4
  have hBz := x4.size
  clear x4 z2 P2
  have hlt := own_lt ow
  have ow2 := own_mono (own_alloc ow (Obj.cells #[.slice oa (st 0).length oc] 38)) (show w.heap.size + 1 + 1 ≤ w0.heap.size by omega)
  have P6 := Bx.new w4 #[.slice oa (st 0).length oc] 38
  have x5 : Ext w4 (w4.alloc (Obj.cells #[.slice oa (st 0).length oc] 38)) := (Ext.refl _).alloc _
  have hne : (Value.slice oa (st 0).length oc).ownBlock ≠ some w4.heap.size := fun e => by have := (hlt _ e).2; omega
  replace P4 := P4.ext x5
  replace X := X.trans x5
  have hB6 : w.heap.size + 1 < w4.heap.size := by omega
  clear x5 ow hlt hBz
  go_upto_region 2 with (fail)
  generalize w4.alloc (Obj.cells #[.slice oa (st 0).length oc] 38) = w5 at *
  generalize w4.heap.size = C6 at *
  go_wp2
  go_loopw [7, 8, 9, 10, 15] (fun _ _ _ _ i wr => ∃ (k : Nat) (a : Option Addr) (c : Nat), k ≤ qs.length ∧ i = .int .i64 k ∧ Bx wr (w.heap.size + 1) [.slice none 0 0] ∧ Bx wr C6 [.slice a (st k).length c] ∧ wr.ownsRow (w.heap.size + 1 + 1) 113 3 (.slice a (st k).length c) (st k).length ((st k).flatMap Fil.cells) ∧ (Value.slice a (st k).length c).ownBlock ≠ some C6 ∧ Ext w wr) (fun _ _ _ _ i _ => qs.length - (intOf i).toNat)
  case atStart => exact ⟨0, oa, oc, Nat.zero_le _, rfl, P4, P6, ow2, hne, X⟩
  case round =>
    clear P4 P6 ow2 hne X
    obtain ⟨k, a, c, hk, rfl, P4, P6, ow, hne, X⟩ := hrel
    by_cases hlt : k < qs.length
    · rcases g2 with g2 | ⟨b2, o2, rfl, hb2, g2⟩
      · omega
      have e0 : wr.cell? ⟨b2, o2 + k * 4, none⟩ = some (.int .i64 qs[k].kind) := (X.cell b2 _ hb2).trans (g2 _ _ (act_c0 qs k hlt))
      have e1 : wr.cell? ⟨b2, o2 + k * 4 + 1, none⟩ = some (.string qs[k].name) := (X.cell b2 _ hb2).trans (g2 _ _ (act_c1 qs k hlt))
      have e2 : wr.cell? ⟨b2, o2 + k * 4 + 2, none⟩ = some (.string qs[k].text) := (X.cell b2 _ hb2).trans (g2 _ _ (act_c2 qs k hlt))
      have e3 : wr.cell? ⟨b2, o2 + k * 4 + 3, none⟩ = some (.string qs[k].to_) := (X.cell b2 _ hb2).trans (g2 _ _ (act_c3 qs k hlt))
      have x6 : Ext wr (wr.alloc (Obj.cells #[.int .i64 qs[k].kind, .string qs[k].name, .string qs[k].text, .string qs[k].to_] 75)) := (Ext.refl _).alloc _
      have P8 := Bx.new wr #[.int .i64 qs[k].kind, .string qs[k].name, .string qs[k].text, .string qs[k].to_] 75
      have hz6 : (wr.alloc (Obj.cells #[.int .i64 qs[k].kind, .string qs[k].name, .string qs[k].text, .string qs[k].to_] 75)).heap.size = wr.heap.size + 1 := World.size_alloc ..
      have h41 := P4.1
      have h61 := P6.1
      have SO := Lib.hid (own_solid ow)
      have FO := Lib.hid (show Fls _ _ _ from Row.of_owns (own_ext ow x6))
      replace P4 := P4.ext x6
      replace P6 := P6.ext x6
      replace X := X.trans x6
      have ST := Lib.hid (HS.out k hlt a c)
      clear g2 x6 ow hne
      go_upto_region 5 with (fail)
      generalize wr.alloc (Obj.cells #[.int .i64 qs[k].kind, .string qs[k].name, .string qs[k].text, .string qs[k].to_] 75) = w6 at *
      have HZ6 := Lib.hid hz6
      clear hz6 e0 e1 e2 e3
      have z6 := P6.2.1 0 _ rfl
      have z80 := P8.2.1 0 _ rfl
      have z81 := P8.2.1 1 _ rfl
      have z82 := P8.2.1 2 _ rfl
      have z83 := P8.2.1 3 _ rfl
      go_wp2_with fail
      refine (ST.out _ FO.out SO.out).mono ?_
      rintro e w7 ⟨a', c', rfl, ow, x7⟩
      replace P4 := P4.ext x7
      replace P6 := P6.ext x7
      replace X := X.trans x7
      have x8 : Ext w7 (w7.alloc (Obj.cells #[.slice a' (st (k + 1)).length c'] 38)) := (Ext.refl _).alloc _
      have P9 := Bx.new w7 #[.slice a' (st (k + 1)).length c'] 38
      have hlt7 := own_lt ow
      have h62 := P6.1
      have ow8 := own_alloc ow (Obj.cells #[.slice a' (st (k + 1)).length c'] 38)
      replace P4 := P4.ext x8
      replace P6 := P6.ext x8
      replace X := X.trans x8
      have hne : (Value.slice a' (st (k + 1)).length c').ownBlock ≠ some C6 := fun e => by have := (hlt7 _ e).1; have := HZ6.out; omega
      clear x7 x8 ow z6 z80 z81 z82 z83 P8 ST FO SO
      go_upto_region 6 with (fail)
      generalize w7.alloc (Obj.cells #[.slice a' (st (k + 1)).length c'] 38) = w8 at *
      have z6 := P6.2.1 0 _ rfl
      have f6 := P6.2.2 0
      have z9 := P9.2.1 0 _ rfl
      have P4' := P4.far (c := C6) (by omega) 0 (.slice a' (st (k + 1)).length c')
      have P6' := P6.set 0 (.slice a' (st (k + 1)).length c') (by simp)
      have X' := X.setCell (p := ⟨C6, 0, none⟩) (by dsimp only; omega) (.slice a' (st (k + 1)).length c')
      have OW' := Lib.hid (own_mono (own_below ow8 (p := ⟨C6, 0, none⟩) (u := .slice a' (st (k + 1)).length c') (by have := HZ6.out; dsimp only; omega)) (show w.heap.size + 1 + 1 ≤ w6.heap.size by have := HZ6.out; omega))
      clear ow8 hlt7
      go_wp2
      go_roundw
      case rel => exact ⟨k + 1, a', c', by omega, by go_num, P4', P6', OW'.out, hne, X'⟩
      case measure => simp [intOf]; omega
    · obtain rfl : k = qs.length := by omega
      have z6 := P6.2.1 0 _ rfl
      have z4 := P4.2.1 0 _ rfl
      have f4 := P4.2.2 0
      have XF := X.setCell (p := ⟨w.heap.size + 1, 0, none⟩) (by dsimp only; omega) (.slice a (st qs.length).length c)
      have RF := P4.set 0 (.slice a (st qs.length).length c) (by simp)
      have OF := Lib.hid (own_mono (own_below ow (p := ⟨w.heap.size + 1, 0, none⟩) (u := .slice a (st qs.length).length c) (by dsimp only; omega)) (show w.heap.size ≤ w.heap.size + 1 + 1 by omega))
      clear ow
      go_wp2
      generalize wr.setCell ⟨w.heap.size + 1, 0, none⟩ (.slice a (st qs.length).length c) = WF at *
      have k0 := RF.2.1 0 _ rfl
      refine bodyPost_ret (v := .tuple #[.agg #[.slice a (st qs.length).length c], .int .i64 qs.length]) (by simp [results, Try.results48, go_sem, k0]) rfl ?_
      exact ⟨a, c, rfl, OF.out, XF⟩
end Go.Proofs.Ytckipgijfgeghaa
