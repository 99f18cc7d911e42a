/- AllLeaves: the law. -/
import Derived.Test.YtckipgijfgeghaaAls
import Derived.Test.YtckipgijfgeghaaArgs2
import Derived.Test.YtckipgijfgeghaaLftA
namespace Go.Proofs.Ytckipgijfgeghaa
open Go.ChangeShapes Go.WideShapes Go.ChangeAt Go.RowKit

theorem rd_lss {w : World} {v : Value} (h : Rd w (.sl tyLeaves) [v]) : ∃ xss, Lss w v xss ∧ LssFit xss := by
  obtain ⟨v', len, flat, hv, hrow, hel⟩ := h
  simp only [List.cons.injEq, and_true] at hv
  subst hv
  have hr1 : Row w 1 v len flat := hrow
  have hl : flat.length = len := by have := hr1.1; omega
  have hch : ∀ i, i < len → ∃ xs : List Leaf, ∃ u, flat[i]? = some u ∧ Lvs w u xs ∧ LeafFit xs := by
    intro i hi
    have h1 := hel i hi
    have hi' : i < flat.length := by omega
    have e : (flat.drop (i * Ty.n tyLeaves)).take (Ty.n tyLeaves) = [flat[i]] := by
      show (flat.drop (i * 1)).take 1 = _
      rw [Nat.mul_one, List.drop_eq_getElem_cons hi']
      rfl
    rw [e] at h1
    obtain ⟨xs, a, b⟩ := rd_leaves h1
    exact ⟨xs, flat[i], List.getElem?_eq_getElem hi', a, b⟩
  obtain ⟨F, hF⟩ := Deep.choose_lt hch
  refine ⟨(List.range len).map F, ⟨flat, ?_, fun i hi => ?_⟩, fun xs hx => ?_⟩
  · have hn : ((List.range len).map F).length = len := by simp
    rw [hn]
    exact hr1
  · have hi' : i < len := by simpa using hi
    obtain ⟨u, e, a, -⟩ := hF i hi'
    exact ⟨u, e, by simpa using a⟩
  · obtain ⟨i, hi, rfl⟩ := List.mem_map.1 hx
    obtain ⟨u, -, -, b⟩ := hF i (List.mem_range.1 hi)
    exact b
theorem arg_lss {W : World} {v : Value} (hv : ∃ a len cap, v = .slice a len cap) (h : Rd W (.sl tyLeaves) v.cells.toList) : ∃ xss, Lss W v xss ∧ LssFit xss := by
  obtain ⟨a, len, cap, rfl⟩ := hv
  exact rd_lss h

theorem allR_len (ls : List Leaf) : (allR ls).1.length ≤ ls.length := by
  unfold allR allL
  cases h : allOn [] ls with
  | none => exact Nat.zero_le _
  | some o =>
    by_cases hl : o.length = ls.length
    · simp [hl]
    · simp [hl]

set_option maxHeartbeats 1600000 in
theorem laws_FnExactAllLeaves (v : Value) (xss : List (List Leaf)) (w : World) (h : Lss w v xss) (hf : LssFit xss) :
    Calls Try.prog 3 #[v] w fun e w' => e = .returned (.bool true) ∧ Ext w w' := by
  obtain ⟨a, c, rfl⟩ := h.form
  rcases szr_cases (xss.length + lssSize xss) with ⟨hz, -⟩ | ⟨z, hz, hz0, hz1, -⟩
  · have HZ := Lib.hid hz
    clear hz
    go_enter Try.func3, Try.ntmps3
    go_wp2_with (go_at_call 6; refine (laws_szLeafSS _ xss _ _ (h.ext (by repeat (first | (with_reducible first | exact Ext.refl _ | assumption | apply Ext.alloc | apply Ext.drew | apply Ext.drewN | refine Ext.setCell ?_ ?_ _ | refine Ext.trans ?_ (by assumption)) | (show _ ≤ _; first | omega | (dsimp only; omega) | (simp; done) | (simp; omega))))) (by omega) hf).mono ?_; rw [HZ.out]; rintro e w1 ⟨rfl, x1⟩)
    go_ret
    exact ⟨rfl, (by repeat (first | (with_reducible first | exact Ext.refl _ | assumption | apply Ext.alloc | apply Ext.drew | apply Ext.drewN | refine Ext.setCell ?_ ?_ _ | refine Ext.trans ?_ (by assumption)) | (show _ ≤ _; first | omega | (dsimp only; omega) | (simp; done) | (simp; omega))))⟩
  · have HZ := Lib.hid hz
    have hlen2 : xss.length + lssSize xss ≤ 1099511627776 := by omega
    have hnum := lssNum_size xss
    have hnb : lssNum xss ≤ 1099511627776 := by omega
    have hnc : lssNum xss ≤ 1048576 := by omega
    have hyl := allR_len xss.flatten
    rw [lssNum_flat] at hyl
    clear hz hz1
    go_enter Try.func3, Try.ntmps3
    go_wp2_with (go_at_call 6; refine (laws_szLeafSS _ xss _ _ (h.ext (by repeat (first | (with_reducible first | exact Ext.refl _ | assumption | apply Ext.alloc | apply Ext.drew | apply Ext.drewN | refine Ext.setCell ?_ ?_ _ | refine Ext.trans ?_ (by assumption)) | (show _ ≤ _; first | omega | (dsimp only; omega) | (simp; done) | (simp; omega))))) (by omega) hf).mono ?_; rw [HZ.out]; rintro e w1 ⟨rfl, x1⟩)
    refine (laws_toLeafSS _ xss _ (h.ext (by repeat (first | (with_reducible first | exact Ext.refl _ | assumption | apply Ext.alloc | apply Ext.drew | apply Ext.drewN | refine Ext.setCell ?_ ?_ _ | refine Ext.trans ?_ (by assumption)) | (show _ ≤ _; first | omega | (dsimp only; omega) | (simp; done) | (simp; omega))))) hlen2).mono ?_
    rintro e w2 ⟨a2, d2, us2, rfl, o2, x2⟩
    go_wp2_with fail
    refine (spec_AllLeaves _ xss _ o2.lss hf hnb).mono ?_
    rintro e w3 ⟨ar, cr, rfl, or, x3⟩
    clear o2
    generalize hY : (allR xss.flatten).1 = ys at *
    have HY := Lib.hid hY
    generalize hB : (allR xss.flatten).2 = yb at *
    have HB := Lib.hid hB
    clear hY hB
    have sr := or.lvs
    go_wp2_with fail
    refine (laws_toLeafSS _ xss _ (h.ext (by repeat (first | (with_reducible first | exact Ext.refl _ | assumption | apply Ext.alloc | apply Ext.drew | apply Ext.drewN | refine Ext.setCell ?_ ?_ _ | refine Ext.trans ?_ (by assumption)) | (show _ ≤ _; first | omega | (dsimp only; omega) | (simp; done) | (simp; omega))))) hlen2).mono ?_
    rintro e w4 ⟨a4, d4, us4, rfl, o4, x4⟩
    go_wp2_with fail
    refine (impl_AllLeaves _ xss _ o4.solid hf hnb).mono ?_
    rw [HY.out, HB.out]
    rintro e w5 ⟨ag, cg, rfl, og, x5⟩
    go_wp2_with fail
    refine (laws_eqLeafS _ _ ys ys _ (og.lvs.ext (by repeat (first | (with_reducible first | exact Ext.refl _ | assumption | apply Ext.alloc | apply Ext.drew | apply Ext.drewN | refine Ext.setCell ?_ ?_ _ | refine Ext.trans ?_ (by assumption)) | (show _ ≤ _; first | omega | (dsimp only; omega) | (simp; done) | (simp; omega))))) (sr.ext (by repeat (first | (with_reducible first | exact Ext.refl _ | assumption | apply Ext.alloc | apply Ext.drew | apply Ext.drewN | refine Ext.setCell ?_ ?_ _ | refine Ext.trans ?_ (by assumption)) | (show _ ≤ _; first | omega | (dsimp only; omega) | (simp; done) | (simp; omega)))))).mono ?_
    rintro e w6 ⟨rfl, x6⟩
    go_wp2_with fail
    refine (laws_toLeafSS _ xss _ (h.ext (by repeat (first | (with_reducible first | exact Ext.refl _ | assumption | apply Ext.alloc | apply Ext.drew | apply Ext.drewN | refine Ext.setCell ?_ ?_ _ | refine Ext.trans ?_ (by assumption)) | (show _ ≤ _; first | omega | (dsimp only; omega) | (simp; done) | (simp; omega))))) hlen2).mono ?_
    rintro e w7 ⟨a7, d7, us7, rfl, o7, x7⟩
    go_wp2_with fail
    refine (laws_eqLeafSS _ _ xss _ (o4.lss.ext (by repeat (first | (with_reducible first | exact Ext.refl _ | assumption | apply Ext.alloc | apply Ext.drew | apply Ext.drewN | refine Ext.setCell ?_ ?_ _ | refine Ext.trans ?_ (by assumption)) | (show _ ≤ _; first | omega | (dsimp only; omega) | (simp; done) | (simp; omega))))) (o7.lss.ext (by repeat (first | (with_reducible first | exact Ext.refl _ | assumption | apply Ext.alloc | apply Ext.drew | apply Ext.drewN | refine Ext.setCell ?_ ?_ _ | refine Ext.trans ?_ (by assumption)) | (show _ ≤ _; first | omega | (dsimp only; omega) | (simp; done) | (simp; omega)))))).mono ?_
    rintro e w8 ⟨rfl, x8⟩
    clear o7
    go_wp2_with fail
    refine (laws_markLeafSS _ us4 xss 1 _ _ (o4.ext (by repeat (first | (with_reducible first | exact Ext.refl _ | assumption | apply Ext.alloc | apply Ext.drew | apply Ext.drewN | refine Ext.setCell ?_ ?_ _ | refine Ext.trans ?_ (by assumption)) | (show _ ≤ _; first | omega | (dsimp only; omega) | (simp; done) | (simp; omega))))) (by omega)).mono ?_
    rintro e w9 ⟨rfl, g9⟩
    have y9 : Ext w3 w9 := g9.toExt (show Ext w3 w8 from (by repeat (first | (with_reducible first | exact Ext.refl _ | assumption | apply Ext.alloc | apply Ext.drew | apply Ext.drewN | refine Ext.setCell ?_ ?_ _ | refine Ext.trans ?_ (by assumption)) | (show _ ≤ _; first | omega | (dsimp only; omega) | (simp; done) | (simp; omega))))) (fun u hu k hk => by have := (o4.2.1.lt hu k hk).1; omega)
    have og9 : OwnLvs w9 w4.heap.size (.slice ag ys.length cg) ys := g9.own (og.ext (show Ext w5 w8 from (by repeat (first | (with_reducible first | exact Ext.refl _ | assumption | apply Ext.alloc | apply Ext.drew | apply Ext.drewN | refine Ext.setCell ?_ ?_ _ | refine Ext.trans ?_ (by assumption)) | (show _ ≤ _; first | omega | (dsimp only; omega) | (simp; done) | (simp; omega)))))) (fun u hu k hk hq => by have h1 := (own_lt og k hk).1; have h2 := (o4.2.1.lt hu k hq).2; omega)
    have z9 : Ext w w9 := Ext.trans (show Ext w w3 from (by repeat (first | (with_reducible first | exact Ext.refl _ | assumption | apply Ext.alloc | apply Ext.drew | apply Ext.drewN | refine Ext.setCell ?_ ?_ _ | refine Ext.trans ?_ (by assumption)) | (show _ ≤ _; first | omega | (dsimp only; omega) | (simp; done) | (simp; omega))))) y9
    have hs4 : w.heap.size ≤ w4.heap.size := Ext.size (show Ext w w4 from (by repeat (first | (with_reducible first | exact Ext.refl _ | assumption | apply Ext.alloc | apply Ext.drew | apply Ext.drewN | refine Ext.setCell ?_ ?_ _ | refine Ext.trans ?_ (by assumption)) | (show _ ≤ _; first | omega | (dsimp only; omega) | (simp; done) | (simp; omega)))))
    have hs34 : w3.heap.size ≤ w4.heap.size := x4.size
    clear g9 og o4
    go_wp2_with fail
    refine (laws_eqLeafS _ _ ys ys _ (og9.lvs.ext (by repeat (first | (with_reducible first | exact Ext.refl _ | assumption | apply Ext.alloc | apply Ext.drew | apply Ext.drewN | refine Ext.setCell ?_ ?_ _ | refine Ext.trans ?_ (by assumption)) | (show _ ≤ _; first | omega | (dsimp only; omega) | (simp; done) | (simp; omega))))) (sr.ext (by repeat (first | (with_reducible first | exact Ext.refl _ | assumption | apply Ext.alloc | apply Ext.drew | apply Ext.drewN | refine Ext.setCell ?_ ?_ _ | refine Ext.trans ?_ (by assumption)) | (show _ ≤ _; first | omega | (dsimp only; omega) | (simp; done) | (simp; omega)))))).mono ?_
    rintro e w10 ⟨rfl, x10⟩
    go_wp2_with fail
    refine (laws_markLeafS _ ys 1 _ _ (og9.ext (by repeat (first | (with_reducible first | exact Ext.refl _ | assumption | apply Ext.alloc | apply Ext.drew | apply Ext.drewN | refine Ext.setCell ?_ ?_ _ | refine Ext.trans ?_ (by assumption)) | (show _ ≤ _; first | omega | (dsimp only; omega) | (simp; done) | (simp; omega))))) (by omega)).mono ?_
    rintro e w11 ⟨rfl, om, g11⟩
    have y11 : Ext w3 w11 := Ext.grown (show Ext w3 w10 from (by repeat (first | (with_reducible first | exact Ext.refl _ | assumption | apply Ext.alloc | apply Ext.drew | apply Ext.drewN | refine Ext.setCell ?_ ?_ _ | refine Ext.trans ?_ (by assumption)) | (show _ ≤ _; first | omega | (dsimp only; omega) | (simp; done) | (simp; omega))))) g11 (fun k hk => Nat.le_trans hs34 (own_lt og9 k hk).1)
    have z11 : Ext w w11 := Ext.grown (show Ext w w10 from (by repeat (first | (with_reducible first | exact Ext.refl _ | assumption | apply Ext.alloc | apply Ext.drew | apply Ext.drewN | refine Ext.setCell ?_ ?_ _ | refine Ext.trans ?_ (by assumption)) | (show _ ≤ _; first | omega | (dsimp only; omega) | (simp; done) | (simp; omega))))) g11 (fun k hk => Nat.le_trans hs4 (own_lt og9 k hk).1)
    have sm := om.lvs
    clear g11 og9 om y9 z9
    go_wp2_with fail
    refine (laws_heldLeafS _ ys.length 1 _ (sm.ext (by repeat (first | (with_reducible first | exact Ext.refl _ | assumption | apply Ext.alloc | apply Ext.drew | apply Ext.drewN | refine Ext.setCell ?_ ?_ _ | refine Ext.trans ?_ (by assumption)) | (show _ ≤ _; first | omega | (dsimp only; omega) | (simp; done) | (simp; omega))))) (by omega)).mono ?_
    rintro e w12 ⟨rfl, x12⟩
    go_wp2_with fail
    refine (laws_toLeafSS _ xss _ (h.ext (by repeat (first | (with_reducible first | exact Ext.refl _ | assumption | apply Ext.alloc | apply Ext.drew | apply Ext.drewN | refine Ext.setCell ?_ ?_ _ | refine Ext.trans ?_ (by assumption)) | (show _ ≤ _; first | omega | (dsimp only; omega) | (simp; done) | (simp; omega))))) hlen2).mono ?_
    rintro e w13 ⟨a13, d13, us13, rfl, o13, x13⟩
    go_wp2_with fail
    refine (impl_AllLeaves _ xss _ o13.solid hf hnb).mono ?_
    rw [HY.out, HB.out]
    rintro e w14 ⟨ah, ch, rfl, oh, x14⟩
    clear o13
    go_wp2_with fail
    refine (laws_eqLeafS _ _ ys ys _ (oh.lvs.ext (by repeat (first | (with_reducible first | exact Ext.refl _ | assumption | apply Ext.alloc | apply Ext.drew | apply Ext.drewN | refine Ext.setCell ?_ ?_ _ | refine Ext.trans ?_ (by assumption)) | (show _ ≤ _; first | omega | (dsimp only; omega) | (simp; done) | (simp; omega))))) (sr.ext (by repeat (first | (with_reducible first | exact Ext.refl _ | assumption | apply Ext.alloc | apply Ext.drew | apply Ext.drewN | refine Ext.setCell ?_ ?_ _ | refine Ext.trans ?_ (by assumption)) | (show _ ≤ _; first | omega | (dsimp only; omega) | (simp; done) | (simp; omega)))))).mono ?_
    rintro e w15 ⟨rfl, x15⟩
    go_wp2_with fail
    refine (laws_heldLeafS _ ys.length 1 _ (sm.ext (by repeat (first | (with_reducible first | exact Ext.refl _ | assumption | apply Ext.alloc | apply Ext.drew | apply Ext.drewN | refine Ext.setCell ?_ ?_ _ | refine Ext.trans ?_ (by assumption)) | (show _ ≤ _; first | omega | (dsimp only; omega) | (simp; done) | (simp; omega))))) (by omega)).mono ?_
    rintro e w16 ⟨rfl, x16⟩
    go_wp2
    go_ret
    exact ⟨rfl, (by repeat (first | (with_reducible first | exact Ext.refl _ | assumption | apply Ext.alloc | apply Ext.drew | apply Ext.drewN | refine Ext.setCell ?_ ?_ _ | refine Ext.trans ?_ (by assumption)) | (show _ ≤ _; first | omega | (dsimp only; omega) | (simp; done) | (simp; omega))))⟩
end Go.Proofs.Ytckipgijfgeghaa
