/- Operations on a disk, one after the other: the reference. -/
import Derived.Test.YtckipgijfgeghaaActS
import Derived.Test.YtckipgijfgeghaaDskP
import Derived.Test.YtckipgijfgeghaaApp
import Derived.Deep.DeepCutAuto
namespace Go.Proofs.Ytckipgijfgeghaa
open Go.RowKit

def StepsS (qs : List ActV) (st : Nat → List Fil) : Prop := ∀ k (hk : k < qs.length) (a : Option Addr) (c : Nat) (w : World), Fls w (.slice a (st k).length c) (st k) →
    Calls Try.prog 85 #[.agg #[.slice a (st k).length c], .agg #[.int .i64 qs[k].kind, .string qs[k].name, .string qs[k].text, .string qs[k].to_]] w fun e w' => ∃ a' c', e = .returned (.tuple #[.agg #[.slice a' (st (k + 1)).length c'], .bool true]) ∧ OwnFls w' w.heap.size (.slice a' (st (k + 1)).length c') (st (k + 1)) ∧ Ext w w'

set_option maxRecDepth 100000 in
set_option maxHeartbeats 3200000 in
theorem spec_DoActs (v l : Value) (qs : List ActV) (st : Nat → List Fil) (w : World) (h : Fls w v (st 0)) (hv : Solid v) (hb : (st 0).length ≤ 30) (hl : Acs w l qs) (hs : StepsS qs st) :
    Calls Try.prog 71 #[.agg #[v], l] w fun e w' => ∃ a c, e = .returned (.tuple #[.agg #[.slice a (st qs.length).length c], .int .i64 qs.length]) ∧ OwnFls w' w.heap.size (.slice a (st qs.length).length c) (st qs.length) ∧ Ext w w' := by
  have HS := Lib.hid hs
  clear hs
  obtain ⟨i0, hi, hz0, hz1, hz2⟩ := info_parts infoFil
  obtain ⟨a1, c1, rfl⟩ := h.form
  obtain ⟨-, a2, c2, rfl, hc2, hm2, g2⟩ := hl
  unfold maxLen at hm2
  have P4 := Bx.new (w.alloc (Obj.cells #[.slice a1 (st 0).length c1] 38)) #[.slice none 0 0] 38
  have X : Ext w ((w.alloc (Obj.cells #[.slice a1 (st 0).length c1] 38)).alloc (Obj.cells #[.slice none 0 0] 38)) := ((Ext.refl w).alloc _).alloc _
  rw [World.size_alloc] at P4
  have OL : (((w.alloc (Obj.cells #[.slice a1 (st 0).length c1] 38)).alloc (Obj.cells #[.slice none 0 0] 38)).alloc (Obj.cells #[] 113)).ownsRow (w.heap.size + 1 + 1) 113 3 (.slice (some ⟨w.heap.size + 1 + 1, 0, none⟩) 0 0) 0 [] := by
    have := World.ownsRow_lit (base := w.heap.size + 1 + 1) (e := 113) (size := 3) ((w.alloc (Obj.cells #[.slice a1 (st 0).length c1] 38)).alloc (Obj.cells #[.slice none 0 0] 38)) #[] 0 (by simp) (Nat.zero_le _) rfl
    rw [World.size_alloc, World.size_alloc] at this
    exact this
  go_enter Try.func71, Try.ntmps71
  go_wp2_with (at_builtin; refine wpList_append_any rfl (.tmp 10) (.tmp 12) 36 rfl (w.heap.size + 1 + 1) 113 i0 _ 3 40 Try.underlying36 hi hz0 hz1 hz2 rfl (by decide) _ 0 [] rfl OL (.slice a1 (st 0).length c1) (st 0).length ((st 0).flatMap Fil.cells) rfl (Row.ext h (X.alloc _)) hv (fil_one _) ?c3 ?c4 ?c5 ?_)
  case c3 => unfold maxLen; omega
  case c4 => omega
  intro v' w4 own4 hgrow
  have xg : Ext ((w.alloc (Obj.cells #[.slice a1 (st 0).length c1] 38)).alloc (Obj.cells #[.slice none 0 0] 38)) w4 := own_ext_of ((Ext.refl _).alloc _) OL hgrow (by simp)
  replace P4 := P4.ext xg
  replace X := X.trans xg
  obtain ⟨oa, oc, rfl⟩ := own_any own4
  have hne : (Value.slice oa (st 0).length oc).ownBlock ≠ some w4.heap.size := fun e => by have := (own_lt own4 _ e).2; omega
  have l4 := P4.1
  have P6 := Bx.new w4 #[.slice oa (st 0).length oc] 38
  have x5 : Ext w4 (w4.alloc (Obj.cells #[.slice oa (st 0).length oc] 38)) := (Ext.refl _).alloc _
  have ow := own_alloc own4 (Obj.cells #[.slice oa (st 0).length oc] 38)
  replace P4 := P4.ext x5
  replace X := X.trans x5
  clear own4 hgrow xg OL x5
  go_upto_region 2 with (fail)
  generalize w4.alloc (Obj.cells #[.slice oa (st 0).length oc] 38) = w5 at *
  generalize w4.heap.size = C6 at *
  go_wp2
  go_loopw [7, 8, 9] (fun i _ _ wr => ∃ (k : Nat) (a : Option Addr) (c : Nat), k ≤ qs.length ∧ i = .int .i64 k ∧ Bx wr (w.heap.size + 1) [.slice none 0 0] ∧ Bx wr C6 [.slice a (st k).length c] ∧ wr.ownsRow (w.heap.size + 1 + 1) 113 3 (.slice a (st k).length c) (st k).length ((st k).flatMap Fil.cells) ∧ (Value.slice a (st k).length c).ownBlock ≠ some C6 ∧ Ext w wr) (fun i _ _ _ => qs.length - (intOf i).toNat)
  case atStart => exact ⟨0, oa, oc, Nat.zero_le _, rfl, P4, P6, ow, hne, X⟩
  case round =>
    clear P4 P6 ow hne X
    obtain ⟨k, a, c, hk, rfl, P4, P6, ow, hne, X⟩ := hrel
    by_cases hlt : k < qs.length
    · rcases g2 with g2 | ⟨b2, o2, rfl, hb2, g2⟩
      · omega
      have e0 : wr.cell? ⟨b2, o2 + k * 4, none⟩ = some (.int .i64 qs[k].kind) := (X.cell b2 _ hb2).trans (g2 _ _ (act_c0 qs k hlt))
      have e1 : wr.cell? ⟨b2, o2 + k * 4 + 1, none⟩ = some (.string qs[k].name) := (X.cell b2 _ hb2).trans (g2 _ _ (act_c1 qs k hlt))
      have e2 : wr.cell? ⟨b2, o2 + k * 4 + 2, none⟩ = some (.string qs[k].text) := (X.cell b2 _ hb2).trans (g2 _ _ (act_c2 qs k hlt))
      have e3 : wr.cell? ⟨b2, o2 + k * 4 + 3, none⟩ = some (.string qs[k].to_) := (X.cell b2 _ hb2).trans (g2 _ _ (act_c3 qs k hlt))
      have lb2 : b2 < wr.heap.size := Nat.lt_of_lt_of_le hb2 X.size
      have ST := Lib.hid (HS.out k hlt a c)
      have FO := Lib.hid (show Fls _ _ _ from Row.of_owns ow)
      have hw := X.size
      have l41 := P4.1
      have l61 := P6.1
      have k1 : (0 : Int) ≤ k := by omega
      have k2 : (k : Int) < qs.length := by omega
      clear g2 ow hne
      go_upto_region 5 with (fail)
      go_cut [8, 9] (fun s8 s9 wx => CutD wr wx s8 s9 (st (k + 1)) (.bool true))
      case first =>
        have XL := Ext.refl wr
        have l_P6 := P6.1
        refine wp_region_held_drew (S := (fun W => W.cell? ⟨C6, 0, none⟩ = some (.slice a (st k).length c) ∧ W.cell? ⟨b2, o2 + k * 4, none⟩ = some (.int .i64 qs[k].kind) ∧ W.cell? ⟨b2, o2 + k * 4 + 1, none⟩ = some (.string qs[k].name) ∧ W.cell? ⟨b2, o2 + k * 4 + 2, none⟩ = some (.string qs[k].text) ∧ W.cell? ⟨b2, o2 + k * 4 + 3, none⟩ = some (.string qs[k].to_))) (by kernel_rfl) (by exact ⟨P6.2.1 0 _ rfl, (XL.cell b2 _ lb2).trans e0, (XL.cell b2 _ lb2).trans e1, (XL.cell b2 _ lb2).trans e2, (XL.cell b2 _ lb2).trans e3⟩) (fun hHeld => ?_)
        have xd : Ext wr wr.drew := (Ext.refl wr).drew
        replace P6 := P6.ext xd
        replace XL := XL.trans xd
        generalize wr.drew = y0 at *
        (refine wpAnyH_take (i := 0) (v := ?_) rfl (by kernel_rfl) (by kernel_rfl) (by kernel_rfl) (fun _ _ _ h => h) (Or.inl ⟨by rfl, ?_⟩) (by assumption) ?_; rotate_left; focus (intro w hSw; (try dsimp only at hSw); (try simp only [zk1, zk2]); go_simp; try with_reducible rfl)); (try simp only [zk1, zk2]); (try simp only [Act.put, zk4, zk5, zk6])
        (refine wpAnyH_take (i := 1) (v := ?_) rfl (by kernel_rfl) (by kernel_rfl) (by kernel_rfl) (fun _ _ _ h => h) (Or.inl ⟨by rfl, ?_⟩) (by assumption) ?_; rotate_left; focus (intro w hSw; (try dsimp only at hSw); (try simp only [zk1, zk2, zk3]); go_simp; try with_reducible rfl)); (try simp only [zk1, zk2, zk3]); (try simp only [Act.put, zk4, zk5, zk6])
        (refine wpAnyH_take (i := 2) (v := ?_) rfl (by kernel_rfl) (by kernel_rfl) (by kernel_rfl) (fun _ _ _ h => h) (Or.inl ⟨by rfl, ?_⟩) (by assumption) ?_; rotate_left; focus (intro w hSw; (try dsimp only at hSw); (try simp only [zk1, zk2, zk3]); go_simp; try with_reducible rfl)); (try simp only [zk1, zk2, zk3]); (try simp only [Act.put, zk4, zk5, zk6])
        (refine wpAnyH_take (i := 3) (v := ?_) rfl (by kernel_rfl) (by kernel_rfl) (by kernel_rfl) (fun _ _ _ h => h) (Or.inl ⟨by rfl, ?_⟩) (by assumption) ?_; rotate_left; focus (intro w hSw; (try dsimp only at hSw); (try simp only [zk1, zk2, zk3]); go_simp; try with_reducible rfl)); (try simp only [zk1, zk2, zk3]); (try simp only [Act.put, zk4, zk5, zk6])
        (refine wpAnyH_take (i := 4) (v := ?_) rfl (by kernel_rfl) (by kernel_rfl) (by kernel_rfl) (fun _ _ _ h => h) (Or.inl ⟨by rfl, ?_⟩) (by assumption) ?_; rotate_left; focus (intro w hSw; (try dsimp only at hSw); (try simp only [zk1, zk2, zk3]); go_simp; try with_reducible rfl)); (try simp only [zk1, zk2, zk3]); (try simp only [Act.put, zk4, zk5, zk6])
        refine wpAnyH_ready (rs := [5, 9]) (by kernel_rfl) (by simp) ?_
        refine AllReadyH.cons rfl (fun K hK => ?_) (AllReadyH.cons rfl (fun K hK => ?_) AllReadyH.nil)
        · (try simp only [zk1, zk2, zk3])
          go_simp
          go_at_call 85
          refine (ST.out _ (FO.out.ext XL)).mono ?_
          rintro e y1 ⟨oa, oc, rfl, ow, x1⟩
          have OWL := own_lt ow
          have sw := XL.size
          have OW := Lib.hid (own_mono ow sw)
          clear ow sw
          replace P6 := P6.ext x1
          replace XL := XL.trans x1
          (try dsimp only)
          refine hK.out _ _ (by exact ⟨P6.2.1 0 _ rfl, (XL.cell b2 _ lb2).trans e0, (XL.cell b2 _ lb2).trans e1, (XL.cell b2 _ lb2).trans e2, (XL.cell b2 _ lb2).trans e3⟩) (fun hHeld => ?_)
          clear hK K
          (refine wpAnyH_take (i := 6) (v := ?_) rfl (by kernel_rfl) (by kernel_rfl) (by kernel_rfl) (fun _ _ _ h => h) (Or.inl ⟨by rfl, ?_⟩) (by assumption) ?_; rotate_left; focus (intro w hSw; (try dsimp only at hSw); (try simp only [zk1, zk2, zk3]); go_simp; try with_reducible rfl)); (try simp only [zk1, zk2, zk3]); (try simp only [Act.put, zk4, zk5, zk6])
          (refine wpAnyH_take (i := 7) (v := ?_) rfl (by kernel_rfl) (by kernel_rfl) (by kernel_rfl) (fun _ _ _ h => h) (Or.inl ⟨by rfl, ?_⟩) (by assumption) ?_; rotate_left; focus (intro w hSw; (try dsimp only at hSw); (try simp only [zk1, zk2, zk3]); go_simp; try with_reducible rfl)); (try simp only [zk1, zk2, zk3]); (try simp only [Act.put, zk4, zk5, zk6])
          (refine wpAnyH_take (i := 8) (v := ?_) rfl (by kernel_rfl) (by kernel_rfl) (by kernel_rfl) (fun _ _ _ h => h) (Or.inl ⟨by rfl, ?_⟩) (by assumption) ?_; rotate_left; focus (intro w hSw; (try dsimp only at hSw); (try simp only [zk1, zk2, zk3]); go_simp; try with_reducible rfl)); (try simp only [zk1, zk2, zk3]); (try simp only [Act.put, zk4, zk5, zk6])
          refine wpAnyH_ready (rs := [9]) (by kernel_rfl) (by simp) ?_
          refine AllReadyH.cons rfl (fun K hK => ?_) AllReadyH.nil
          have hne : (Value.slice oa (st (k + 1)).length oc).ownBlock ≠ some y1.heap.size := fun e => by have := (OWL _ e).2; omega
          have OW := Lib.hid (own_alloc OW.out (Obj.cells #[.slice none 0 0] 38))
          (try simp only [zk1, zk2, zk3])
          go_simp
          have ez : Ext y1 (y1.alloc (Obj.cells #[.slice none 0 0] 38)) := (Ext.refl _).alloc _
          have Q := Bx.new y1 #[.slice none 0 0] 38
          have lq : wr.heap.size ≤ y1.heap.size := XL.size
          have sq := Nat.le_refl y1.heap.size
          replace P6 := P6.ext ez
          replace XL := XL.trans ez
          generalize y1.alloc (Obj.cells #[.slice none 0 0] 38) = y2 at *
          generalize hqb : y1.heap.size = qb at *
          have HQB := Lib.hid hqb
          clear hqb sq
          (try dsimp only)
          refine hK.out _ _ (by exact ⟨P6.2.1 0 _ rfl, (XL.cell b2 _ lb2).trans e0, (XL.cell b2 _ lb2).trans e1, (XL.cell b2 _ lb2).trans e2, (XL.cell b2 _ lb2).trans e3⟩) (fun hHeld => ?_)
          clear hK K
          have z0 := Q.2.1 0 _ rfl
          have f0 := Q.2.2 0
          have QQ := Q.set 0 (.slice oa (st (k + 1)).length oc) (by simp)
          have XQ := XL.setCell (p := ⟨qb, 0, none⟩) (by dsimp only; omega) (.slice oa (st (k + 1)).length oc)
          have OQ := Lib.hid (own_far OW.out (b := qb) (o := 0) (fun k e e2 => by subst e2; exact hne e) (.slice oa (st (k + 1)).length oc))
          skip
          have P6f := P6.far (c := qb) (by omega) 0 (.slice oa (st (k + 1)).length oc)
          (refine wpAnyH_ready (rs := [10]) (by kernel_rfl) (by simp) ?_; refine AllReadyH.cons rfl (fun K hK => ?_) AllReadyH.nil; (try simp only [zk1, zk2, zk3]))
          go_simp
          clear z0 f0
          clear P6
          have P6 := P6f
          clear P6f
          generalize y2.setCell ⟨qb, 0, none⟩ (.slice oa (st (k + 1)).length oc) = WF at *
          have XL := XQ
          (try dsimp only)
          refine hK.out _ _ (by exact ⟨P6.2.1 0 _ rfl, (XL.cell b2 _ lb2).trans e0, (XL.cell b2 _ lb2).trans e1, (XL.cell b2 _ lb2).trans e2, (XL.cell b2 _ lb2).trans e3⟩) (fun hHeld => ?_)
          clear hK K
          (refine wpAnyH_take (i := 11) (v := ?_) rfl (by kernel_rfl) (by kernel_rfl) (by kernel_rfl) (fun _ _ _ h => h) (Or.inl ⟨by rfl, ?_⟩) (by assumption) ?_; rotate_left; focus (intro w hSw; (try dsimp only at hSw); (try simp only [zk1, zk2, zk3]); go_simp; try with_reducible rfl)); (try simp only [zk1, zk2, zk3]); (try simp only [Act.put, zk4, zk5, zk6])
          refine wpAnyH_done (by kernel_rfl) ?_ _
          go_wp2_with fail
          go_meet
          exact ⟨qb, oa, oc, rfl, rfl, lq, QQ, OQ.out, hne, XQ⟩
        · (try simp only [zk1, zk2, zk3])
          go_simp
          have ez : Ext y0 (y0.alloc (Obj.cells #[.slice none 0 0] 38)) := (Ext.refl _).alloc _
          have Q := Bx.new y0 #[.slice none 0 0] 38
          have lq : wr.heap.size ≤ y0.heap.size := XL.size
          have sq := Nat.le_refl y0.heap.size
          replace P6 := P6.ext ez
          replace XL := XL.trans ez
          generalize y0.alloc (Obj.cells #[.slice none 0 0] 38) = y1 at *
          generalize hqb : y0.heap.size = qb at *
          have HQB := Lib.hid hqb
          clear hqb sq
          (try dsimp only)
          refine hK.out _ _ (by exact ⟨P6.2.1 0 _ rfl, (XL.cell b2 _ lb2).trans e0, (XL.cell b2 _ lb2).trans e1, (XL.cell b2 _ lb2).trans e2, (XL.cell b2 _ lb2).trans e3⟩) (fun hHeld => ?_)
          clear hK K
          refine wpAnyH_ready (rs := [5]) (by kernel_rfl) (by simp) ?_
          refine AllReadyH.cons rfl (fun K hK => ?_) AllReadyH.nil
          (try simp only [zk1, zk2, zk3])
          go_simp
          go_at_call 85
          refine (ST.out _ (FO.out.ext XL)).mono ?_
          rintro e y2 ⟨oa, oc, rfl, ow, x1⟩
          have OWL := own_lt ow
          have sw := XL.size
          have lqs := Q.1
          have OW := Lib.hid (own_mono ow sw)
          clear ow sw
          replace P6 := P6.ext x1
          replace XL := XL.trans x1
          replace Q := Q.ext x1
          (try dsimp only)
          refine hK.out _ _ (by exact ⟨P6.2.1 0 _ rfl, (XL.cell b2 _ lb2).trans e0, (XL.cell b2 _ lb2).trans e1, (XL.cell b2 _ lb2).trans e2, (XL.cell b2 _ lb2).trans e3⟩) (fun hHeld => ?_)
          clear hK K
          have hne : (Value.slice oa (st (k + 1)).length oc).ownBlock ≠ some qb := fun e => by have := (OWL _ e).1; omega
          (refine wpAnyH_take (i := 6) (v := ?_) rfl (by kernel_rfl) (by kernel_rfl) (by kernel_rfl) (fun _ _ _ h => h) (Or.inl ⟨by rfl, ?_⟩) (by assumption) ?_; rotate_left; focus (intro w hSw; (try dsimp only at hSw); (try simp only [zk1, zk2, zk3]); go_simp; try with_reducible rfl)); (try simp only [zk1, zk2, zk3]); (try simp only [Act.put, zk4, zk5, zk6])
          (refine wpAnyH_take (i := 7) (v := ?_) rfl (by kernel_rfl) (by kernel_rfl) (by kernel_rfl) (fun _ _ _ h => h) (Or.inl ⟨by rfl, ?_⟩) (by assumption) ?_; rotate_left; focus (intro w hSw; (try dsimp only at hSw); (try simp only [zk1, zk2, zk3]); go_simp; try with_reducible rfl)); (try simp only [zk1, zk2, zk3]); (try simp only [Act.put, zk4, zk5, zk6])
          (refine wpAnyH_take (i := 8) (v := ?_) rfl (by kernel_rfl) (by kernel_rfl) (by kernel_rfl) (fun _ _ _ h => h) (Or.inl ⟨by rfl, ?_⟩) (by assumption) ?_; rotate_left; focus (intro w hSw; (try dsimp only at hSw); (try simp only [zk1, zk2, zk3]); go_simp; try with_reducible rfl)); (try simp only [zk1, zk2, zk3]); (try simp only [Act.put, zk4, zk5, zk6])
          have z0 := Q.2.1 0 _ rfl
          have f0 := Q.2.2 0
          have QQ := Q.set 0 (.slice oa (st (k + 1)).length oc) (by simp)
          have XQ := XL.setCell (p := ⟨qb, 0, none⟩) (by dsimp only; omega) (.slice oa (st (k + 1)).length oc)
          have OQ := Lib.hid (own_far OW.out (b := qb) (o := 0) (fun k e e2 => by subst e2; exact hne e) (.slice oa (st (k + 1)).length oc))
          skip
          have P6f := P6.far (c := qb) (by omega) 0 (.slice oa (st (k + 1)).length oc)
          (refine wpAnyH_ready (rs := [10]) (by kernel_rfl) (by simp) ?_; refine AllReadyH.cons rfl (fun K hK => ?_) AllReadyH.nil; (try simp only [zk1, zk2, zk3]))
          go_simp
          clear z0 f0
          clear P6
          have P6 := P6f
          clear P6f
          generalize y2.setCell ⟨qb, 0, none⟩ (.slice oa (st (k + 1)).length oc) = WF at *
          have XL := XQ
          (try dsimp only)
          refine hK.out _ _ (by exact ⟨P6.2.1 0 _ rfl, (XL.cell b2 _ lb2).trans e0, (XL.cell b2 _ lb2).trans e1, (XL.cell b2 _ lb2).trans e2, (XL.cell b2 _ lb2).trans e3⟩) (fun hHeld => ?_)
          clear hK K
          (refine wpAnyH_take (i := 11) (v := ?_) rfl (by kernel_rfl) (by kernel_rfl) (by kernel_rfl) (fun _ _ _ h => h) (Or.inl ⟨by rfl, ?_⟩) (by assumption) ?_; rotate_left; focus (intro w hSw; (try dsimp only at hSw); (try simp only [zk1, zk2, zk3]); go_simp; try with_reducible rfl)); (try simp only [zk1, zk2, zk3]); (try simp only [Act.put, zk4, zk5, zk6])
          refine wpAnyH_done (by kernel_rfl) ?_ _
          go_wp2_with fail
          go_meet
          exact ⟨qb, oa, oc, rfl, rfl, lq, QQ, OQ.out, hne, XQ⟩
      case rest =>
        obtain ⟨qb, oa, oc, rfl, rfl, lq, Q, OW, hne, x2⟩ := hcut
        replace P4 := P4.ext x2
        replace P6 := P6.ext x2
        replace X := X.trans x2
        have HOW := Lib.hid OW
        have h6 : (Value.slice oa (st (k + 1)).length oc).ownBlock ≠ some C6 := fun e => by have := (own_lt OW _ e).1; omega
        clear OW x2 ST FO e0 e1 e2 e3
        have z8 := Q.2.1 0 _ rfl
        have z6 := P6.2.1 0 _ rfl
        have f6 := P6.2.2 0
        have P4' := P4.far (c := C6) (by omega) 0 (.slice oa (st (k + 1)).length oc)
        have P6' := P6.set 0 (.slice oa (st (k + 1)).length oc) (by simp)
        have X' := X.setCell (p := ⟨C6, 0, none⟩) (by dsimp only; omega) (.slice oa (st (k + 1)).length oc)
        have OW' := Lib.hid (own_mono (own_below HOW.out (p := ⟨C6, 0, none⟩) (u := .slice oa (st (k + 1)).length oc) (by dsimp only; omega)) (show w.heap.size + 1 + 1 ≤ wr.heap.size by omega))
        go_wp2
        go_roundw
        case rel => exact ⟨k + 1, oa, oc, by omega, by go_num, P4', P6', OW'.out, h6, X'⟩
        case measure => simp [intOf]; omega
    · obtain rfl : k = qs.length := by omega
      have z6 := P6.2.1 0 _ rfl
      have z4 := P4.2.1 0 _ rfl
      have f4 := P4.2.2 0
      have XF := X.setCell (p := ⟨w.heap.size + 1, 0, none⟩) (by dsimp only; omega) (.slice a (st qs.length).length c)
      have RF := P4.set 0 (.slice a (st qs.length).length c) (by simp)
      have OF := Lib.hid (own_mono (own_below ow (p := ⟨w.heap.size + 1, 0, none⟩) (u := .slice a (st qs.length).length c) (by dsimp only; omega)) (show w.heap.size ≤ w.heap.size + 1 + 1 by omega))
      clear ow
      go_wp2
      generalize wr.setCell ⟨w.heap.size + 1, 0, none⟩ (.slice a (st qs.length).length c) = WF at *
      have k0 := RF.2.1 0 _ rfl
      refine bodyPost_ret (v := .tuple #[.agg #[.slice a (st qs.length).length c], .int .i64 qs.length]) (by simp [results, Try.results71, go_sem, k0]) rfl ?_
      exact ⟨a, c, rfl, OF.out, XF⟩
end Go.Proofs.Ytckipgijfgeghaa
