/- spec.AllLeaves. -/
import Derived.Test.YtckipgijfgeghaaAli
import Derived.Test.YtckipgijfgeghaaPut3
namespace Go.Proofs.Ytckipgijfgeghaa
open Go.RowKit

theorem allOn_append : ∀ (p o o' q : List Leaf), allOn o p = some o' → allOn o (p ++ q) = allOn o' q
  | [], o, o', q, h => by
    have e : o = o' := by simpa [allOn] using h
    subst e; rfl
  | l :: t, o, o', q, h => by
    rw [allOn] at h
    rw [List.cons_append, allOn]
    split at h
    · next hw => rw [if_pos hw]; exact allOn_append t _ o' q h
    · cases h
theorem allOn_one {p o : List Leaf} {l : Leaf} (h : allOn [] p = some o) (hw : putWell o l.name l.value = true) : allOn [] (p ++ [l]) = some (putOut o l.name l.value) := by
  rw [allOn_append p [] o _ h, allOn, if_pos hw]; rfl
theorem allOn_fail {p o : List Leaf} {l : Leaf} (h : allOn [] p = some o) (hw : putWell o l.name l.value = false) (q : List Leaf) : allOn [] (p ++ l :: q) = none := by
  rw [allOn_append p [] o _ h, allOn, if_neg (by simp [hw])]
theorem flat_at {xss : List (List Leaf)} {j k : Nat} (hj : j < xss.length) (hk : k < xss[j].length) : ∃ q, xss.flatten = ((xss.take j).flatten ++ xss[j].take k) ++ xss[j][k] :: q := by
  refine ⟨xss[j].drop (k + 1) ++ (xss.drop (j + 1)).flatten, ?_⟩
  have e1 : xss.flatten = (xss.take j ++ xss[j] :: xss.drop (j + 1)).flatten := by rw [← List.drop_eq_getElem_cons hj, List.take_append_drop]
  have e2 : xss[j] = xss[j].take k ++ xss[j][k] :: xss[j].drop (k + 1) := by rw [← List.drop_eq_getElem_cons hk, List.take_append_drop]
  rw [e1, List.flatten_append, List.flatten_cons]
  have e3 : ((xss.take j).flatten ++ xss[j].take k) ++ xss[j][k] :: (xss[j].drop (k + 1) ++ (xss.drop (j + 1)).flatten) = (xss.take j).flatten ++ ((xss[j].take k ++ xss[j][k] :: xss[j].drop (k + 1)) ++ (xss.drop (j + 1)).flatten) := by simp only [List.append_assoc, List.cons_append]
  rw [e3, ← e2]
theorem take_at {xss : List (List Leaf)} {j k : Nat} (hj : j < xss.length) (hk : k < xss[j].length) : (xss.take j).flatten ++ xss[j].take (k + 1) = ((xss.take j).flatten ++ xss[j].take k) ++ [xss[j][k]] := by
  rw [List.take_succ_eq_append_getElem hk, List.append_assoc]
theorem put_ok {o : List Leaf} {n u : ByteArray} (h : putWell o n u = true) : leavesOk (putOut o n u) = true := by
  rw [putWell, Bool.and_eq_true] at h; exact h.2
theorem allR_none {ls : List Leaf} (h : allOn [] ls = none) : allR ls = ([], false) := by simp [allR, allL, h]
theorem allR_some {ls o : List Leaf} (h : allOn [] ls = some o) (hl : o.length = ls.length) : allR ls = (o, true) := by simp [allR, allL, h, hl]
theorem allR_less {ls o : List Leaf} (h : allOn [] ls = some o) (hl : o.length ≠ ls.length) : allR ls = ([], false) := by simp [allR, allL, h, hl]

theorem ok_fitA {xs : List Leaf} (h : leavesOk xs = true) : LeafFit xs := fun l hl => by
  obtain ⟨a, b⟩ := (leavesOk_small h).2 l hl
  unfold maxLen
  omega

set_option maxHeartbeats 3200000 in
set_option maxRecDepth 100000 in
theorem spec_AllLeaves (v : Value) (xss : List (List Leaf)) (w : World) (h : Lss w v xss) (hf : LssFit xss) (hb : lssNum xss ≤ 1099511627776) :
    Calls Try.prog 7 #[v] w fun e w' => ∃ a c, e = .returned (.tuple #[.slice a (allR xss.flatten).1.length c, .bool (allR xss.flatten).2]) ∧ OwnLvs w' w.heap.size (.slice a (allR xss.flatten).1.length c) (allR xss.flatten).1 ∧ Ext w w' := by
  obtain ⟨us, ⟨hlen, a1, c1, rfl, hc1, hm1, g1⟩, hu⟩ := h
  unfold maxLen at hm1
  have HU := Lib.hid hu
  have HL := Lib.hid hlen
  have HF := Lib.hid hf
  clear hu hlen hf
  go_enter Try.func7, Try.ntmps7
  go_wp2
  go_loopw [4, 5, 6] (fun v n i wr => ∃ (j : Nat) (oa : Option Addr) (oc : Nat) (o : List Leaf), j ≤ xss.length ∧ i = .int .i64 j ∧ v = .slice oa o.length oc ∧ n = .int .i64 (lssNum (xss.take j)) ∧ Ext w wr ∧
    Hid (OwnLvs wr w.heap.size (.slice oa o.length oc) o ∧ allOn [] (xss.take j).flatten = some o ∧ leavesOk o = true)) (fun _ _ i _ => xss.length - (intOf i).toNat)
  case atStart => exact ⟨0, some ⟨w.heap.size, 0, none⟩, 0, [], Nat.zero_le _, rfl, rfl, by simp [lssNum], (by repeat (first | (with_reducible first | exact Ext.refl _ | assumption | apply Ext.alloc | apply Ext.drew | apply Ext.drewN | refine Ext.setCell ?_ ?_ _ | refine Ext.trans ?_ (by assumption)) | (show _ ≤ _; first | omega | (dsimp only; omega) | (simp; done) | (simp; omega)))), Lib.hid ⟨World.ownsRow_lit w #[] 0 (Nat.le_refl _) (Nat.zero_le _) rfl, rfl, rfl⟩⟩
  case round =>
    obtain ⟨j, oa, oc, o, hj, rfl, rfl, rfl, hx, HK⟩ := hrel
    have hle0 := lssNum_take xss j
    by_cases hlt : j < xss.length
    · rcases g1 with g1 | ⟨b1, o1, rfl, hb1, g1⟩
      · omega
      obtain ⟨u, eu, lu⟩ := HU.out j hlt
      have eu0 : w.cell? ⟨b1, o1 + j, none⟩ = some u := g1 _ _ eu
      have ln := lu
      obtain ⟨ua, uc, rfl⟩ := lu.form
      obtain ⟨-, ua', uc', hue, hcu, hmu, gu⟩ := lu
      injection hue with z1 z2 z3
      subst z1 z3
      unfold maxLen at hmu
      have hn := lssNum_succ xss j hlt
      have hle := lssNum_take xss (j + 1)
      have HN := Lib.hid hn
      have hle2 : lssNum (xss.take j) + xss[j].length ≤ 1099511627776 := by omega
      have HFL := Lib.hid (flat_succ hlt)
      clear eu hn hle g1
      generalize hS : lssNum (xss.take j) = S at *
      have e1 : wr.cell? ⟨b1, o1 + j, none⟩ = some (.slice ua xss[j].length uc) := (hx.cell b1 _ hb1).trans eu0
      go_wp2
      go_loopw [4, 5, 7] (fun v n i wr => ∃ (k : Nat) (oa : Option Addr) (oc : Nat) (o : List Leaf), k ≤ xss[j].length ∧ i = .int .i64 k ∧ v = .slice oa o.length oc ∧ n = .int .i64 ((S : Int) + (k : Int)) ∧ Ext w wr ∧
        Hid (OwnLvs wr w.heap.size (.slice oa o.length oc) o ∧ allOn [] ((xss.take j).flatten ++ xss[j].take k) = some o ∧ leavesOk o = true)) (fun _ _ i _ => xss[j].length - (intOf i).toNat)
      case atStart => exact ⟨0, oa, oc, o, Nat.zero_le _, rfl, rfl, by simp, hx, Lib.hid ⟨HK.out.1, by rw [List.take_zero, List.append_nil]; exact HK.out.2.1, HK.out.2.2⟩⟩
      case round =>
        clear e1 HK hx
        obtain ⟨k, pa, pc, q, hk, rfl, rfl, rfl, hx, HK⟩ := hrel
        have e1 : wr.cell? ⟨b1, o1 + j, none⟩ = some (.slice ua xss[j].length uc) := (hx.cell b1 _ hb1).trans eu0
        have l1 : b1 < wr.heap.size := Nat.lt_of_lt_of_le hb1 hx.size
        by_cases hlk : k < xss[j].length
        · rcases gu with gu | ⟨b2, o2, rfl, hb2, gu⟩
          · omega
          have e2 : wr.cell? ⟨b2, o2 + k * 2, none⟩ = some (.string xss[j][k].name) := (hx.cell b2 _ hb2).trans (gu _ _ (leaf_c0 xss[j] k hlk))
          have e3 : wr.cell? ⟨b2, o2 + k * 2 + 1, none⟩ = some (.string xss[j][k].value) := (hx.cell b2 _ hb2).trans (gu _ _ (leaf_c1 xss[j] k hlk))
          have l2 : b2 < wr.heap.size := Nat.lt_of_lt_of_le hb2 hx.size
          obtain ⟨f1, f2⟩ := HF.out xss[j] (List.getElem_mem hlt) xss[j][k] (List.getElem_mem hlk)
          have F1 := Lib.hid f1
          have F2 := Lib.hid f2
          have hq24 : q.length ≤ 1099511627776 := by have := (leavesOk_small HK.out.2.2).1; omega
          have H24 := Lib.hid hq24
          have hqs : q.length ≤ 24 := (leavesOk_small HK.out.2.2).1
          clear gu f1 f2 eu0 hq24
          cases hw : putWell q xss[j][k].name xss[j][k].value
          · have HW := Lib.hid hw
            have HR : Hid (allR xss.flatten = ([], false)) := Lib.hid (by
              obtain ⟨t, ht⟩ := flat_at hlt hlk
              rw [ht]
              exact allR_none (allOn_fail HK.out.2.1 hw t))
            clear hw
            go_wp2_with fail
            go_region_held3 (fun W => W.cell? ⟨b1, o1 + j, none⟩ = some (.slice (some ⟨b2, o2, none⟩) xss[j].length uc) ∧ W.cell? ⟨b2, o2 + k * 2, none⟩ = some (.string xss[j][k].name) ∧ W.cell? ⟨b2, o2 + k * 2 + 1, none⟩ = some (.string xss[j][k].value)) (first | exact ⟨e1, e2, e3⟩ | exact ⟨(c6 _ _ l1).trans e1, (c6 _ _ l2).trans e2, (c6 _ _ l2).trans e3⟩) (first | (go_at_call 30; refine (spec_LeafPut _ q _ _ _ ((HK.out.1.ext (by repeat (first | (with_reducible first | exact Ext.refl _ | assumption | apply Ext.alloc | apply Ext.drew | apply Ext.drewN | refine Ext.setCell ?_ ?_ _ | refine Ext.trans ?_ (by assumption)) | (show _ ≤ _; first | omega | (dsimp only; omega) | (simp; done) | (simp; omega))))).lvs) (own_solid HK.out.1) (ok_fitA HK.out.2.2) F1.out F2.out H24.out).mono ?_; rw [HW.out]; rintro e w6 ⟨ra, rc, rfl, -, x6⟩; have c6 : ∀ k o, k < wr.heap.size → w6.cell? ⟨k, o, none⟩ = wr.cell? ⟨k, o, none⟩ := fun k o hk => x6.cell k o hk))
            all_goals
              go_wp2
              go_ret2
              refine ⟨some ⟨w6.heap.size, 0, none⟩, 0, ?_, ?_, (by repeat (first | (with_reducible first | exact Ext.refl _ | assumption | apply Ext.alloc | apply Ext.drew | apply Ext.drewN | refine Ext.setCell ?_ ?_ _ | refine Ext.trans ?_ (by assumption)) | (show _ ≤ _; first | omega | (dsimp only; omega) | (simp; done) | (simp; omega))))⟩
              · rw [HR.out]; rfl
              · rw [HR.out]; exact World.ownsRow_lit _ #[] 0 (by have := hx.size; have := x6.size; simp [go_sem] at *; omega) (Nat.zero_le _) rfl
          · have HP := Lib.hid (put_yes hw)
            have HW := Lib.hid hw
            clear hw
            go_wp2_with fail
            go_region_held3 (fun W => W.cell? ⟨b1, o1 + j, none⟩ = some (.slice (some ⟨b2, o2, none⟩) xss[j].length uc) ∧ W.cell? ⟨b2, o2 + k * 2, none⟩ = some (.string xss[j][k].name) ∧ W.cell? ⟨b2, o2 + k * 2 + 1, none⟩ = some (.string xss[j][k].value)) (first | exact ⟨e1, e2, e3⟩ | exact ⟨(c6 _ _ l1).trans e1, (c6 _ _ l2).trans e2, (c6 _ _ l2).trans e3⟩) (first | (go_at_call 30; refine (spec_LeafPut _ q _ _ _ ((HK.out.1.ext (by repeat (first | (with_reducible first | exact Ext.refl _ | assumption | apply Ext.alloc | apply Ext.drew | apply Ext.drewN | refine Ext.setCell ?_ ?_ _ | refine Ext.trans ?_ (by assumption)) | (show _ ≤ _; first | omega | (dsimp only; omega) | (simp; done) | (simp; omega))))).lvs) (own_solid HK.out.1) (ok_fitA HK.out.2.2) F1.out F2.out H24.out).mono ?_; rw [HP.out, HW.out]; rintro e w6 ⟨ra, rc, rfl, ow6, x6⟩; have OW6 := Lib.hid ow6; clear ow6; have c6 : ∀ k o, k < wr.heap.size → w6.cell? ⟨k, o, none⟩ = wr.cell? ⟨k, o, none⟩ := fun k o hk => x6.cell k o hk))
            all_goals
              have hwr := hx.size
              go_wp2
              go_roundw
              case rel => exact ⟨k + 1, ra, rc, _, by omega, by go_num, rfl, by go_num, (by repeat (first | (with_reducible first | exact Ext.refl _ | assumption | apply Ext.alloc | apply Ext.drew | apply Ext.drewN | refine Ext.setCell ?_ ?_ _ | refine Ext.trans ?_ (by assumption)) | (show _ ≤ _; first | omega | (dsimp only; omega) | (simp; done) | (simp; omega)))), Lib.hid ⟨(OW6.out.mono (by simp [go_sem] at *; omega)).ext (by repeat (first | (with_reducible first | exact Ext.refl _ | assumption | apply Ext.alloc | apply Ext.drew | apply Ext.drewN | refine Ext.setCell ?_ ?_ _ | refine Ext.trans ?_ (by assumption)) | (show _ ≤ _; first | omega | (dsimp only; omega) | (simp; done) | (simp; omega)))), by rw [take_at hlt hlk]; exact allOn_one HK.out.2.1 HW.out, put_ok HW.out⟩⟩
              case measure => simp [intOf]; omega
        · have hkn : k = xss[j].length := by omega
          subst hkn
          clear gu eu0
          go_wp2
          go_roundw
          case rel => exact ⟨j + 1, pa, pc, q, by omega, by go_num, rfl, by rw [HN.out]; go_num, hx, Lib.hid ⟨HK.out.1, by rw [HFL.out]; have := HK.out.2.1; rw [List.take_length] at this; exact this, HK.out.2.2⟩⟩
          case measure => simp [intOf]; omega
    · have hjn : j = xss.length := by omega
      subst hjn
      have hq24 := (leavesOk_small HK.out.2.2).1
      have hK := HK.out
      rw [List.take_length] at hK
      clear g1 HK
      have HK := Lib.hid hK
      clear hK
      rw [List.take_length] at *
      by_cases hl : o.length = lssNum xss
      · have hlb : ((o.length : Int) != (lssNum xss : Int)) = false := by simp [hl]
        have HR := Lib.hid (allR_some HK.out.2.1 (by rw [hl, lssNum_flat]))
        clear hl
        go_wp2
        go_ret2
        refine ⟨oa, oc, ?_, ?_, (by repeat (first | (with_reducible first | exact Ext.refl _ | assumption | apply Ext.alloc | apply Ext.drew | apply Ext.drewN | refine Ext.setCell ?_ ?_ _ | refine Ext.trans ?_ (by assumption)) | (show _ ≤ _; first | omega | (dsimp only; omega) | (simp; done) | (simp; omega))))⟩
        · rw [HR.out]; rfl
        · rw [HR.out]; exact HK.out.1
      · have hlb : ((o.length : Int) != (lssNum xss : Int)) = true := by simp; omega
        have HR := Lib.hid (allR_less HK.out.2.1 (by rw [lssNum_flat]; exact hl))
        clear hl
        go_wp2
        go_ret2
        refine ⟨some ⟨wr.heap.size, 0, none⟩, 0, ?_, ?_, (by repeat (first | (with_reducible first | exact Ext.refl _ | assumption | apply Ext.alloc | apply Ext.drew | apply Ext.drewN | refine Ext.setCell ?_ ?_ _ | refine Ext.trans ?_ (by assumption)) | (show _ ≤ _; first | omega | (dsimp only; omega) | (simp; done) | (simp; omega))))⟩
        · rw [HR.out]; rfl
        · rw [HR.out]; exact World.ownsRow_lit _ #[] 0 (by have := hx.size; simp [go_sem] at *; omega) (Nat.zero_le _) rfl
end Go.Proofs.Ytckipgijfgeghaa
