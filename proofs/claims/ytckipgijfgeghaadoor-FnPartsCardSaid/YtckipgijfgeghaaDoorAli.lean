/- impl.AllLeaves. -/
import Derived.Test.YtckipgijfgeghaaDoorAlp
import Derived.Test.YtckipgijfgeghaaDoorLss
import Derived.Test.YtckipgijfgeghaaDoorApp
namespace Go.Proofs.YtckipgijfgeghaaDoor
open Go.RowKit

theorem bx_grown {W W' : World} {b : Nat} {cs : List Value} {row : Option Nat} (h : Bx W b cs) (hg : W.grownBy W' row) (hne : ∀ k, row = some k → k ≠ b) : Bx W' b cs :=
  have hb := hg.block b h.1 (fun e => hne b e.symm rfl)
  ⟨Nat.lt_of_lt_of_le h.1 hg.size, fun j v hj => (World.cell?_of_block (w := W) (a := ⟨b, j, none⟩) hb).trans (h.2.1 j v hj), fun j => (World.frozen?_of_block (w := W) (a := ⟨b, j, none⟩) hb).trans (h.2.2 j)⟩
/-- slices of leaves, each nil or somewhere -/
def LssS (w : World) (v : Value) (xss : List (List Leaf)) : Prop := ∃ us : List Value, Row w 1 v xss.length us ∧ ∀ i (h : i < xss.length), ∃ u, us[i]? = some u ∧ Lvs w u xss[i] ∧ Solid u
theorem OwnLss.solid {w : World} {b : Nat} {v : Value} {us : List Value} {xss : List (List Leaf)} (h : OwnLss w b v us xss) : LssS w v xss :=
  ⟨us, Row.of_owns h.1, fun i hi => by obtain ⟨u, e, l⟩ := h.2.1.2.1 i hi; exact ⟨u, e, l.lvs, own_solid l⟩⟩
theorem flat_fit {xss : List (List Leaf)} (h : LssFit xss) : LeafFit xss.flatten := fun l hl => by
  obtain ⟨xs, h1, h2⟩ := List.mem_flatten.1 hl
  exact h xs h1 l h2
theorem flat_succ {xss : List (List Leaf)} {k : Nat} (hk : k < xss.length) : (xss.take (k + 1)).flatten = (xss.take k).flatten ++ xss[k] := by
  rw [List.take_succ_eq_append_getElem hk, List.flatten_append]
  simp

set_option maxHeartbeats 1600000 in
set_option maxRecDepth 100000 in
theorem impl_AllLeaves (v : Value) (xss : List (List Leaf)) (w : World) (h : LssS w v xss) (hf : LssFit xss) (hb : lssNum xss ≤ 1099511627776) :
    Calls Tryd.prog 10 #[v] w fun e w' => ∃ a c, e = .returned (.tuple #[.slice a (allR xss.flatten).1.length c, .bool (allR xss.flatten).2]) ∧ OwnLvs w' w.heap.size (.slice a (allR xss.flatten).1.length c) (allR xss.flatten).1 ∧ Ext w w' := by
  obtain ⟨us, ⟨hlen, a1, c1, rfl, hc1, hm1, g1⟩, hu⟩ := h
  unfold maxLen at hm1
  obtain ⟨i0, hi, hz0, hz1, hz2⟩ := info_parts infoLeaf
  have HU := Lib.hid hu
  have HL := Lib.hid hlen
  have HF := Lib.hid hf
  clear hu hlen hf
  go_enter Tryd.func10, Tryd.ntmps10
  go_wp2
  have B0 : Bx (w.alloc (Obj.cells #[.slice none 0 0] 24)) w.heap.size [.slice none 0 0] := Bx.new w #[.slice none 0 0] 24
  have HB0 := Lib.hid B0
  clear B0
  go_loopw [9] (fun i wr => ∃ (j : Nat) (oa : Option Addr) (oc : Nat), j ≤ xss.length ∧ i = .int .i64 j ∧ Ext w wr ∧
    Hid (Bx wr w.heap.size [.slice oa (lssNum (xss.take j)) oc] ∧ wr.ownsRow (w.heap.size + 1) 34 2 (.slice oa (lssNum (xss.take j)) oc) (lssNum (xss.take j)) ((xss.take j).flatten.flatMap Leaf.cells))) (fun i _ => xss.length - (intOf i).toNat)
  case atStart => exact ⟨0, none, 0, Nat.zero_le _, rfl, (by repeat (first | (with_reducible first | exact Ext.refl _ | assumption | apply Ext.alloc | apply Ext.drew | apply Ext.drewN | refine Ext.setCell ?_ ?_ _ | refine Ext.trans ?_ (by assumption)) | (show _ ≤ _; first | omega | (dsimp only; omega) | (simp; done) | (simp; omega)))), Lib.hid ⟨HB0.out, World.ownsRow_nil _ _ _ _⟩⟩
  case round =>
    obtain ⟨j, oa, oc, hj, rfl, hx, HK⟩ := hrel
    have hsz := HK.out.1.1
    by_cases hlt : j < xss.length
    · rcases g1 with g1 | ⟨b1, o1, rfl, hb1, g1⟩
      · omega
      obtain ⟨u, eu, lu, su⟩ := HU.out j hlt
      have e1 : wr.cell? ⟨b1, o1 + j, none⟩ = some u := (hx.cell b1 _ hb1).trans (g1 _ _ eu)
      have lu1 := lu.ext hx
      obtain ⟨ua, uc, rfl⟩ := lu.form
      have hn := lssNum_succ xss j hlt
      have hle := lssNum_take xss (j + 1)
      have hfl := flat_succ hlt
      have q0 : wr.cell? ⟨w.heap.size, 0, none⟩ = some (.slice oa (lssNum (xss.take j)) oc) := HK.out.1.2.1 0 _ rfl
      have f0 : wr.frozen? ⟨w.heap.size, 0, none⟩ = false := HK.out.1.2.2 0
      have HN := Lib.hid hn
      have HFL := Lib.hid hfl
      have hle2 : lssNum (xss.take j) + xss[j].length ≤ 1099511627776 := by omega
      clear g1 eu lu hn hle hfl
      go_wp2_with (at_builtin; refine wpList_append_any rfl (.tmp 13) (.tmp 14) 24 rfl (w.heap.size + 1) 34 i0 _ 2 32 Tryd.underlying24 hi hz0 hz1 hz2 rfl (by decide) _ _ _ rfl HK.out.2 _ _ _ rfl lu1 su (leaf_one _) ?c3 ?c4 ?c5 ?_)
      case c3 => unfold maxLen; omega
      case c4 => omega
      case c5 => omega
      intro v' w1 hown' hgrow
      obtain ⟨a', c', rfl⟩ := own_any hown'
      have hfar : ∀ k, (Value.slice oa (lssNum (xss.take j)) oc).ownBlock = some k → k ≠ w.heap.size := fun k hk => by have := (own_lt HK.out.2 k hk).1; omega
      have hx1 : Ext w w1 := hx.grown hgrow (fun k hk => by have := (own_lt HK.out.2 k hk).1; omega)
      have B1 := bx_grown HK.out.1 hgrow hfar
      have q1 : w1.cell? ⟨w.heap.size, 0, none⟩ = some (.slice oa (lssNum (xss.take j)) oc) := B1.2.1 0 _ rfl
      have f1 : w1.frozen? ⟨w.heap.size, 0, none⟩ = false := B1.2.2 0
      have O2 := own_off hown' (b := w.heap.size) (o := 0) (fun k hk => by have := (own_lt hown' k hk).1; omega) (.slice a' (lssNum (xss.take j) + xss[j].length) c')
      have B2 := B1.set 0 (.slice a' (lssNum (xss.take j) + xss[j].length) c') (by simp)
      have HO2 := Lib.hid O2
      have HB2 := Lib.hid B2
      clear hown' hgrow B1 O2 B2 hfar q0 f0
      go_wp2
      go_roundw
      case rel =>
        refine ⟨j + 1, a', c', by omega, by go_num, (by repeat (first | (with_reducible first | exact Ext.refl _ | assumption | apply Ext.alloc | apply Ext.drew | apply Ext.drewN | refine Ext.setCell ?_ ?_ _ | refine Ext.trans ?_ (by assumption)) | (show _ ≤ _; first | omega | (dsimp only; omega) | (simp; done) | (simp; omega)))), Lib.hid ⟨?_, ?_⟩⟩
        · rw [HN.out]; exact HB2.out
        · rw [HN.out, HFL.out, List.flatMap_append]; exact HO2.out
      case measure => simp [intOf]; omega
    · have hjn : j = xss.length := by omega
      subst hjn
      have hK := HK.out
      rw [List.take_length] at hK
      obtain ⟨hB, hO⟩ := hK
      have q0 : wr.cell? ⟨w.heap.size, 0, none⟩ = some (.slice oa (lssNum xss) oc) := hB.2.1 0 _ rfl
      have S := sort_any _ _ w.heap.size (w.heap.size + 1) xss.flatten wr hO (lssNum_flat xss) hb hB (by omega)
      have HS := Lib.hid S
      clear g1 HK hB hO S
      go_wp2_with fail
      refine HS.out.mono ?_
      rintro e w1 ⟨rfl, ys, hp, hs, own, bx, hxx⟩
      have hx1 : Ext w w1 := hxx w hx (by omega)
      have hys : ys.length = lssNum xss := by rw [hp.length_eq, lssNum_flat]
      have q1 : w1.cell? ⟨w.heap.size, 0, none⟩ = some (.slice oa (lssNum xss) oc) := bx.2.1 0 _ rfl
      have hsz1 := bx.1
      have ow : OwnLvs w1 (w.heap.size + 1) (.slice oa ys.length oc) ys := by unfold OwnLvs; rw [hys]; exact own
      have HY := Lib.hid hys
      have OW := Lib.hid ow
      have fit : LeafFit ys := fun l hl => flat_fit HF.out l (hp.subset hl)
      have lv : Lvs w1 (.slice oa (lssNum xss) oc) ys := by have := ow.lvs; rw [hys] at this; exact this
      clear own ow bx hxx hys q0
      cases hk : leavesOk ys
      · have R := Lib.hid (all_bad hp hs hk)
        have HK := Lib.hid hk
        clear hk hp hs
        go_wp2_with fail
        refine (impl_LeavesOk _ ys _ (lv.ext (by repeat (first | (with_reducible first | exact Ext.refl _ | assumption | apply Ext.alloc | apply Ext.drew | apply Ext.drewN | refine Ext.setCell ?_ ?_ _ | refine Ext.trans ?_ (by assumption)) | (show _ ≤ _; first | omega | (dsimp only; omega) | (simp; done) | (simp; omega))))) fit).mono ?_
        rw [HK.out]
        rintro e w2 ⟨rfl, x2⟩
        go_wp2
        go_ret2
        refine ⟨none, 0, ?_, ?_, (by repeat (first | (with_reducible first | exact Ext.refl _ | assumption | apply Ext.alloc | apply Ext.drew | apply Ext.drewN | refine Ext.setCell ?_ ?_ _ | refine Ext.trans ?_ (by assumption)) | (show _ ≤ _; first | omega | (dsimp only; omega) | (simp; done) | (simp; omega))))⟩
        · rw [R.out]; rfl
        · rw [R.out]; exact World.ownsRow_nil _ _ _ _
      · have R := Lib.hid (all_ok hp hs hk)
        have HK := Lib.hid hk
        clear hk hp hs
        go_wp2_with fail
        refine (impl_LeavesOk _ ys _ (lv.ext (by repeat (first | (with_reducible first | exact Ext.refl _ | assumption | apply Ext.alloc | apply Ext.drew | apply Ext.drewN | refine Ext.setCell ?_ ?_ _ | refine Ext.trans ?_ (by assumption)) | (show _ ≤ _; first | omega | (dsimp only; omega) | (simp; done) | (simp; omega))))) fit).mono ?_
        rw [HK.out]
        rintro e w2 ⟨rfl, x2⟩
        have q2 : w2.cell? ⟨w.heap.size, 0, none⟩ = some (.slice oa (lssNum xss) oc) := (x2.cell _ _ hsz1).trans q1
        go_wp2
        go_ret2
        refine ⟨oa, oc, ?_, ?_, (by repeat (first | (with_reducible first | exact Ext.refl _ | assumption | apply Ext.alloc | apply Ext.drew | apply Ext.drewN | refine Ext.setCell ?_ ?_ _ | refine Ext.trans ?_ (by assumption)) | (show _ ≤ _; first | omega | (dsimp only; omega) | (simp; done) | (simp; omega))))⟩
        · rw [R.out]; show _ = Ending.returned (.tuple #[.slice oa ys.length oc, .bool true]); rw [HY.out]; rfl
        · rw [R.out]; exact (OW.out.ext x2).mono (by omega)
end Go.Proofs.YtckipgijfgeghaaDoor
